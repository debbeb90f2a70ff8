/- Functions of the program: code, what is asked for their answers, the walk (printed by pr.py). -/
import Derived.Test.YtggcmnoacplbkaaDoorWA0
namespace Go.Proofs.YtggcmnoacplbkaaDoor
open Go Go.Proofs.YtggcmnoacplbkaaDoor.AM
set_option maxRecDepth 100000
set_option linter.unusedSimpArgs false
set_option linter.unusedVariables false
set_option maxHeartbeats 4000000
/-! (*stylus/patch.reader).patch -/
abbrev n_patch_reader_patch : Nat := 18
noncomputable def code_patch_reader_patch : Code := match Tryd.f18.body with | some c => c | none => .skip
def ann_patch_reader_patch : Nat → Ann
  | 10 => { pure := [], plan := (.op 0 (.op 2 (.both (.op 1 (.op 3 (.op 4 (.op 5 (.op 6 (.op 7 .done)))))) (.op 3 (.op 1 (.op 4 (.op 5 (.op 6 (.op 7 .done))))))))), ghost := false, post := false }
  | 13 => { pure := [], plan := .done, ghost := false, post := true }
  | _ => {}
noncomputable def ac_patch_reader_patch : AC :=
  (.seq (.reg [⟨some 2, (Op.alloc 24), none, false⟩]) (.seq (.reg [⟨some 8, (Op.move (Operand.tmp 0)), none, false⟩, ⟨some 9, (Op.move (Operand.tmp 0)), none, false⟩, ⟨some 10, (Op.call (Call.mk (Callee.value (Operand.func 29)) #[(Operand.tmp 9), (Operand.const (Value.string (ByteArray.mk #[112, 97, 103, 101, 115, 32])))] #[56, 9])), none, false⟩, ⟨some 11, (Op.call (Call.mk (Callee.value (Operand.func 28)) #[(Operand.tmp 8), (Operand.tmp 10), (Operand.const (Value.int IntKind.i64 0)), (Operand.const (Value.int IntKind.i64 999999999))] #[56, 9, 3, 3])), none, false⟩, ⟨some 12, (Op.fieldAddr 24 (Operand.tmp 2) 0), none, false⟩, ⟨none, (Op.store 3 (Operand.tmp 12) (Operand.tmp 11)), none, false⟩]) (.seq (.reg [⟨some 3, (Op.assign (Operand.const (Value.int IntKind.i64 0))), none, false⟩]) (.seq (.block 0 (.loop (.seq (.seq (.reg [⟨some 13, (Op.move (Operand.tmp 0)), none, false⟩, ⟨some 14, (Op.nilCheck (Operand.tmp 13)), none, false⟩, ⟨some 15, (Op.fieldAddr 58 (Operand.tmp 14) 0), none, false⟩, ⟨some 16, (Op.load 9 (Operand.tmp 15)), none, false⟩, ⟨some 17, (Op.binOp BinOp.neq 9 (Operand.tmp 16) (Operand.const (Value.string (ByteArray.mk #[]))) 9), none, false⟩]) (.cond (Operand.tmp 17) .skip (.exit 0))) (.block 1 (.seq (.reg [⟨some 19, (Op.move (Operand.tmp 0)), none, false⟩, ⟨some 20, (Op.call (Call.mk (Callee.value (Operand.func 29)) #[(Operand.tmp 19), (Operand.const (Value.string (ByteArray.mk #[112, 97, 103, 101, 32])))] #[56, 9])), none, false⟩, ⟨some 21, (Op.call (Call.mk (Callee.value (Operand.func 30)) #[(Operand.tmp 20), (Operand.const (Value.string (ByteArray.mk #[32])))] #[9, 9])), none, false⟩, ⟨some 18, (Op.move (Operand.tmp 21)), none, false⟩, ⟨some 22, (Op.extract (Operand.tmp 18) 0), none, false⟩, ⟨some 23, (Op.extract (Operand.tmp 18) 1), none, false⟩, ⟨some 24, (Op.extract (Operand.tmp 18) 2), none, false⟩, ⟨some 4, (Op.assign (Operand.tmp 22)), none, false⟩, ⟨some 5, (Op.assign (Operand.tmp 23)), none, false⟩, ⟨some 6, (Op.assign (Operand.tmp 24)), none, false⟩]) (.seq (.seq (.reg [⟨some 25, (Op.move (Operand.tmp 6)), none, false⟩, ⟨some 26, (Op.unOp UnOp.not 4 (Operand.tmp 25)), none, false⟩]) (.cond (Operand.tmp 26) (.reg [⟨some 27, (Op.move (Operand.tmp 0)), none, false⟩, ⟨some 28, (Op.nilCheck (Operand.tmp 27)), none, false⟩, ⟨some 29, (Op.fieldAddr 58 (Operand.tmp 28) 1), none, false⟩, ⟨some 30, (Op.load 3 (Operand.tmp 29)), none, false⟩, ⟨some 31, (Op.build 54 #[(0, (Operand.tmp 30))]), none, false⟩, ⟨some 32, (Op.makeInterface 54 (Operand.tmp 31)), none, false⟩, ⟨none, (Op.panic (Operand.tmp 32)), none, false⟩]) .skip)) (.seq (.reg [⟨some 33, (Op.move (Operand.tmp 0)), none, false⟩, ⟨some 34, (Op.move (Operand.tmp 4)), none, false⟩, ⟨some 35, (Op.move (Operand.tmp 3)), none, false⟩, ⟨some 36, (Op.binOp BinOp.add 3 (Operand.tmp 35) (Operand.const (Value.int IntKind.i64 1)) 3), none, false⟩, ⟨some 37, (Op.fieldAddr 24 (Operand.tmp 2) 0), none, false⟩, ⟨some 38, (Op.load 3 (Operand.tmp 37)), none, false⟩, ⟨some 39, (Op.call (Call.mk (Callee.value (Operand.func 28)) #[(Operand.tmp 33), (Operand.tmp 34), (Operand.tmp 36), (Operand.tmp 38)] #[56, 9, 3, 3])), none, false⟩, ⟨some 40, (Op.build 37 #[(0, (Operand.tmp 39))]), none, false⟩, ⟨some 7, (Op.alloc 37), none, false⟩, ⟨none, (Op.store 37 (Operand.tmp 7) (Operand.tmp 40)), none, false⟩]) (.seq (.seq (.reg [⟨some 41, (Op.move (Operand.tmp 0)), none, false⟩, ⟨some 42, (Op.move (Operand.tmp 5)), none, false⟩, ⟨some 43, (Op.call (Call.mk (Callee.value (Operand.func 28)) #[(Operand.tmp 41), (Operand.tmp 42), (Operand.const (Value.int IntKind.i64 0)), (Operand.const (Value.int IntKind.i64 999999999))] #[56, 9, 3, 3])), none, false⟩, ⟨some 44, (Op.move (Operand.const (Value.int IntKind.i64 0))), none, false⟩]) (.block 2 (.loop (.seq (.reg [⟨some 45, (Op.binOp BinOp.lss 3 (Operand.tmp 44) (Operand.tmp 43) 3), none, false⟩]) (.seq (.cond (Operand.tmp 45) .skip (.exit 2)) (.seq (.block 3 (.draw [⟨some 46, (Op.fieldAddr 37 (Operand.tmp 7) 1), none, false⟩, ⟨some 47, (Op.load 35 (Operand.tmp 46)), none, false⟩, ⟨some 48, (Op.move (Operand.tmp 0)), none, false⟩, ⟨some 49, (Op.call (Call.mk (Callee.value (Operand.func 29)) #[(Operand.tmp 48), (Operand.const (Value.string (ByteArray.mk #[62])))] #[56, 9])), none, false⟩, ⟨some 50, (Op.buildSlice 35 1 #[(0, (Operand.tmp 49))]), none, false⟩, ⟨some 51, (Op.call (Call.mk (Callee.builtin Builtin.append) #[(Operand.tmp 47), (Operand.tmp 50)] #[35, 35])), none, false⟩, ⟨some 52, (Op.fieldAddr 37 (Operand.tmp 7) 1), none, false⟩, ⟨none, (Op.store 35 (Operand.tmp 52) (Operand.tmp 51)), none, false⟩] (.op 0 (.op 2 (.both (.op 1 (.op 3 (.op 4 (.op 5 (.op 6 (.op 7 .done)))))) (.op 3 (.op 1 (.op 4 (.op 5 (.op 6 (.op 7 .done))))))))))) (.reg [⟨some 53, (Op.binOp BinOp.add 3 (Operand.tmp 44) (Operand.const (Value.int IntKind.i64 1)) 3), none, false⟩, ⟨some 44, (Op.move (Operand.tmp 53)), none, false⟩]))))))) (.seq (.reg [⟨some 54, (Op.fieldAddr 37 (Operand.tmp 7) 0), none, false⟩, ⟨some 55, (Op.load 3 (Operand.tmp 54)), none, false⟩, ⟨some 3, (Op.assign (Operand.tmp 55)), none, false⟩]) (.seq (.reg [⟨some 56, (Op.fieldAddr 24 (Operand.tmp 2) 1), none, false⟩, ⟨some 57, (Op.load 22 (Operand.tmp 56)), none, false⟩, ⟨some 58, (Op.load 37 (Operand.tmp 7)), none, false⟩, ⟨some 59, (Op.buildSlice 22 1 #[(0, (Operand.tmp 58))]), none, false⟩, ⟨some 60, (Op.call (Call.mk (Callee.builtin Builtin.append) #[(Operand.tmp 57), (Operand.tmp 59)] #[22, 22])), none, false⟩, ⟨some 61, (Op.fieldAddr 24 (Operand.tmp 2) 1), none, false⟩, ⟨none, (Op.store 22 (Operand.tmp 61) (Operand.tmp 60)), none, false⟩]) .ghost)))))))))) (.seq (.reg [⟨some 62, (Op.load 24 (Operand.tmp 2)), none, false⟩, ⟨none, (Op.store 24 (Operand.tmp 2) (Operand.tmp 62)), none, false⟩]) .ret)))))
theorem body_patch_reader_patch : Tryd.f18.body = some code_patch_reader_patch := by kernel_rfl
theorem slim_patch_reader_patch : slim ann_patch_reader_patch code_patch_reader_patch = some ac_patch_reader_patch := by kernel_rfl
theorem name_patch_reader_patch : (Tryd.f18.name == "runtime.NumGoroutine") = false := by kernel_rfl
theorem enter_patch_reader_patch {args : List AV} {h : Hp} {Q : AE → Hp → Prop} (H : awp Tryd.prog tab ac_patch_reader_patch (retQ tab [(ResultVar.cell 2 24)] Q) ⟨args ++ List.replicate (63 - args.length) .any, h⟩) : ACalls Tryd.prog 18 args h Q :=
  acalls_of tab_ok mixed Tryd.func18 body_patch_reader_patch name_patch_reader_patch slim_patch_reader_patch rfl Tryd.ntmps18 H
/-- (*stylus/patch.reader).patch, with what it is handed -/
def patch_reader_patch_i0.w (c0_ : PatchReader) (Q : ApiPatch → PatchReader → Prop) (X : AV → Prop) : Prop :=
  patch_reader_next_i0.w (ByteArray.mk #[112, 97, 103, 101, 115, 32]) c0_ (fun r1 v1 =>
    patch_reader_number_i0.w r1 0 999999999 v1 (fun r2 v2 =>
      wloop (σ := PatchReader × Int × (List ApiChange) × Int) (fun ⟨a1, a2, a3, a4⟩ next1 =>
        if a1.rest = (ByteArray.mk #[]) then
          Q (⟨a2, a3⟩ : ApiPatch) a1
        else
          patch_reader_next_i0.w (ByteArray.mk #[112, 97, 103, 101, 32]) a1 (fun r3 v3 =>
            strings_Cut.w r3 (ByteArray.mk #[32]) (fun r4 =>
              if (!r4.2.2) = true then
                X (.ifc 54 (.agg [(aint v3.line)]))
              else
                (I64 (a4 + 1)) ∧
                patch_reader_number_i0.w r4.1 (a4 + 1) a2 v3 (fun r5 v4 =>
                  patch_reader_number_i0.w r4.2.1 0 999999999 v4 (fun r6 v5 =>
                    wloop (σ := PatchReader × Int × (List ByteArray) × Int) (fun ⟨a5, a6, a7, a8⟩ next2 =>
                      if a8 < r6 then
                        patch_reader_next_i0.w (ByteArray.mk #[62]) a5 (fun r7 v6 =>
                          ((a7.length + ([r7] : List ByteArray).length) * 16 ≤ 140737488355328) ∧
                          (I64 (a8 + 1)) ∧
                          next2 (v6, a6, a7 ++ ([r7] : List ByteArray), a8 + 1)) X
                      else
                        ((a3.length + 1) * 32 ≤ 140737488355328) ∧
                        next1 (a5, a2, a3 ++ ([(⟨a6, a7⟩ : ApiChange)] : List ApiChange), a6)) (v5, r5, ([] : List ByteArray), 0)) X) X)) X) (v2, r2, ([] : List ApiChange), 0)) X) X
theorem patch_reader_patch_i0.ok {c0_ : PatchReader} {Q : ApiPatch → PatchReader → Prop} {X : AV → Prop} (hm : patch_reader_patch_i0.w c0_ Q X) {h0 h : Hp} {b0_ : Nat} (H : AM.Own h0 h [⟨(.optr b0_ 2 0 0), true, 2, [(PatchReader.enc c0_)], some (58, 2)⟩]) : ACalls Tryd.prog n_patch_reader_patch [(.optr b0_ 2 0 0)] h (PanOr h0 X (fun e h' => ∃ (r : ApiPatch) (c0' : PatchReader), e = .ret ((fun r => (.agg (ApiPatch.enc r))) r) ∧ AM.Own h0 h' [⟨(.optr b0_ 2 0 0), true, 2, [(PatchReader.enc c0')], some (58, 2)⟩] ∧ Q r c0')) := by
  refine enter_patch_reader_patch ?_
  unfold patch_reader_patch_i0.w at hm
  have e0 := H.getP 0 rfl
  simp (maxSteps := 4000000) -implicitDefEqProofs (disch := omega) only [push_cast, Nat.reduceAdd, Nat.reduceLeDiff, Nat.reduceMul, Nat.reduceSub, Nat.reduceLT, Nat.reduceEqDiff, Int.reduceAdd, Int.reduceSub, Int.reduceLE, Int.reduceLT, Int.reduceEq, Int.reduceNe, Int.reduceToNat, Int.reduceNeg, reduceIte, reduceCtorEq, ac_patch_reader_patch, e0]
  refine H.newR [(aint 0), anil] rfl (fun b1 h1 H => ?_)
  have e0 := H.getP 0 rfl
  have e1 := H.getP 1 rfl
  simp (maxSteps := 4000000) -implicitDefEqProofs (disch := omega) only [push_cast, Nat.reduceAdd, Nat.reduceLeDiff, Nat.reduceMul, Nat.reduceSub, Nat.reduceLT, Nat.reduceEqDiff, Int.reduceAdd, Int.reduceSub, Int.reduceLE, Int.reduceLT, Int.reduceEq, Int.reduceNe, Int.reduceToNat, Int.reduceNeg, reduceIte, reduceCtorEq, e0, e1]
  obtain ⟨h2, HF1, hB1⟩ := H.frameS [0] (by decide)
  refine calls_of (patch_reader_next_i0.ok hm HF1) ?_
  rintro _ h3 (⟨r1, v1, rfl, H', hm⟩ | ⟨p1, rfl, hs1, hm⟩)
  rotate_left
  · exact retQ_pan (T := tab) (rs := [(ResultVar.cell 2 24)]) (hB1.2.trans hs1) hm
  replace H := hB1.1 _ _ rfl H'
  have e0 := H.getP 0 rfl
  have e1 := H.getP 1 rfl
  simp (maxSteps := 4000000) -implicitDefEqProofs (disch := omega) only [push_cast, Nat.reduceAdd, Nat.reduceLeDiff, Nat.reduceMul, Nat.reduceSub, Nat.reduceLT, Nat.reduceEqDiff, Int.reduceAdd, Int.reduceSub, Int.reduceLE, Int.reduceLT, Int.reduceEq, Int.reduceNe, Int.reduceToNat, Int.reduceNeg, reduceIte, reduceCtorEq, e0, e1]
  obtain ⟨h4, HF2, hB2⟩ := H.frameS [0] (by decide)
  refine calls_of (patch_reader_number_i0.ok hm HF2) ?_
  rintro _ h5 (⟨r2, v2, rfl, H', hm⟩ | ⟨p2, rfl, hs2, hm⟩)
  rotate_left
  · exact retQ_pan (T := tab) (rs := [(ResultVar.cell 2 24)]) (hB2.2.trans hs2) hm
  replace H := hB2.1 _ _ rfl H'
  have e0 := H.getP 0 rfl
  have e1 := H.getP 1 rfl
  simp (maxSteps := 4000000) -implicitDefEqProofs (disch := omega) only [push_cast, Nat.reduceAdd, Nat.reduceLeDiff, Nat.reduceMul, Nat.reduceSub, Nat.reduceLT, Nat.reduceEqDiff, Int.reduceAdd, Int.reduceSub, Int.reduceLE, Int.reduceLT, Int.reduceEq, Int.reduceNe, Int.reduceToNat, Int.reduceNeg, reduceIte, reduceCtorEq, e0, e1]
  refine H.stP 1 [(aint r2), anil] rfl rfl rfl rfl (Nat.le_of_ble_eq_true rfl) rfl (fun h6 H => ?_)
  have e0 := H.getP 0 rfl
  have e1 := H.getP 1 rfl
  simp (maxSteps := 4000000) -implicitDefEqProofs (disch := omega) only [push_cast, Nat.reduceAdd, Nat.reduceLeDiff, Nat.reduceMul, Nat.reduceSub, Nat.reduceLT, Nat.reduceEqDiff, Int.reduceAdd, Int.reduceSub, Int.reduceLE, Int.reduceLT, Int.reduceEq, Int.reduceNe, Int.reduceToNat, Int.reduceNeg, reduceIte, reduceCtorEq, e0, e1]
  obtain ⟨inv1, mu1, hi1, hs3⟩ := hm
  replace H := H.addNil 2 (some (37, 0))
  replace H := H.perm [0, 1, 2] (by decide)
  refine awp_loop (σ := (PatchReader × Int × (List ApiChange) × Int) × AV × Hp) (fun ⟨⟨a1, a2, a3, a4⟩, x1, h7⟩ => ⟨(((List.replicate 63 AV.any).set 0 (.optr b0_ 2 0 0)).set 2 (.optr b1 2 0 0)).set 3 (aint a4), h7⟩) (fun ⟨⟨a1, a2, a3, a4⟩, x1, h7⟩ => inv1 (a1, a2, a3, a4) ∧ AM.Own h0 h7 [⟨(.optr b0_ 2 0 0), true, 2, [(PatchReader.enc a1)], some (58, 2)⟩, ⟨(.optr b1 2 0 0), true, 2, [[(aint a2), x1]], some (24, 2)⟩, ⟨x1, false, 2, a3.map ApiChange.enc, some (37, 0)⟩]) (fun ⟨⟨a1, a2, a3, a4⟩, x1, h7⟩ => mu1 (a1, a2, a3, a4)) ⟨(v2, r2, ([] : List ApiChange), 0), anil, h6⟩ (Retell.weak (by simp [Weak, push_cast]) (Hp.sub.refl _)) ⟨hi1, H⟩ ?_
  rintro ⟨⟨a1, a2, a3, a4⟩, x1, h7⟩ ⟨hi1, H⟩
  have hm := hs3 _ hi1
  dsimp only at hm H ⊢
  have e0 := H.getP 0 rfl
  have e1 := H.getP 1 rfl
  simp (maxSteps := 4000000) -implicitDefEqProofs (disch := omega) only [push_cast, Nat.reduceAdd, Nat.reduceLeDiff, Nat.reduceMul, Nat.reduceSub, Nat.reduceLT, Nat.reduceEqDiff, Int.reduceAdd, Int.reduceSub, Int.reduceLE, Int.reduceLT, Int.reduceEq, Int.reduceNe, Int.reduceToNat, Int.reduceNeg, reduceIte, reduceCtorEq, e0, e1]
  rw [fork_cond]
  refine ⟨fun c1 => ?_, fun c1 => ?_⟩
  · replace hm := ifn hm c1
    have e0 := H.getP 0 rfl
    have e1 := H.getP 1 rfl
    simp (maxSteps := 4000000) -implicitDefEqProofs (disch := omega) only [push_cast, Nat.reduceAdd, Nat.reduceLeDiff, Nat.reduceMul, Nat.reduceSub, Nat.reduceLT, Nat.reduceEqDiff, Int.reduceAdd, Int.reduceSub, Int.reduceLE, Int.reduceLT, Int.reduceEq, Int.reduceNe, Int.reduceToNat, Int.reduceNeg, reduceIte, reduceCtorEq, eq_false c1, e0, e1]
    obtain ⟨h8, HF3, hB3⟩ := H.frameS [0] (by decide)
    refine calls_of (patch_reader_next_i0.ok hm HF3) ?_
    rintro _ h9 (⟨r3, v3, rfl, H', hm⟩ | ⟨p3, rfl, hs4, hm⟩)
    rotate_left
    · exact retQ_pan (T := tab) (rs := [(ResultVar.cell 2 24)]) (hB3.2.trans hs4) hm
    replace H := hB3.1 _ _ rfl H'
    have e0 := H.getP 0 rfl
    have e1 := H.getP 1 rfl
    simp (maxSteps := 4000000) -implicitDefEqProofs (disch := omega) only [push_cast, Nat.reduceAdd, Nat.reduceLeDiff, Nat.reduceMul, Nat.reduceSub, Nat.reduceLT, Nat.reduceEqDiff, Int.reduceAdd, Int.reduceSub, Int.reduceLE, Int.reduceLT, Int.reduceEq, Int.reduceNe, Int.reduceToNat, Int.reduceNeg, reduceIte, reduceCtorEq, eq_false c1, e0, e1]
    refine calls_w (fun h => strings_Cut.ok hm h) (fun r4 hm => ?_)
    have e0 := H.getP 0 rfl
    have e1 := H.getP 1 rfl
    simp (maxSteps := 4000000) -implicitDefEqProofs (disch := omega) only [push_cast, Nat.reduceAdd, Nat.reduceLeDiff, Nat.reduceMul, Nat.reduceSub, Nat.reduceLT, Nat.reduceEqDiff, Int.reduceAdd, Int.reduceSub, Int.reduceLE, Int.reduceLT, Int.reduceEq, Int.reduceNe, Int.reduceToNat, Int.reduceNeg, reduceIte, reduceCtorEq, eq_false c1, e0, e1]
    rw [fork_bool]
    refine ⟨fun c2 => ?_, fun c2 => ?_⟩
    · replace hm := ifp hm c2
      have e0 := H.getP 0 rfl
      have e1 := H.getP 1 rfl
      simp (maxSteps := 4000000) -implicitDefEqProofs (disch := omega) only [push_cast, Nat.reduceAdd, Nat.reduceLeDiff, Nat.reduceMul, Nat.reduceSub, Nat.reduceLT, Nat.reduceEqDiff, Int.reduceAdd, Int.reduceSub, Int.reduceLE, Int.reduceLT, Int.reduceEq, Int.reduceNe, Int.reduceToNat, Int.reduceNeg, reduceIte, reduceCtorEq, eq_false c1, c2, e0, e1]
      exact retQ_pan H.sub hm
    · replace hm := ifn hm (by rw [c2]; exact Bool.false_ne_true)
      obtain ⟨w1, hm⟩ := hm
      have e0 := H.getP 0 rfl
      have e1 := H.getP 1 rfl
      simp (maxSteps := 4000000) -implicitDefEqProofs (disch := omega) only [push_cast, Nat.reduceAdd, Nat.reduceLeDiff, Nat.reduceMul, Nat.reduceSub, Nat.reduceLT, Nat.reduceEqDiff, Int.reduceAdd, Int.reduceSub, Int.reduceLE, Int.reduceLT, Int.reduceEq, Int.reduceNe, Int.reduceToNat, Int.reduceNeg, reduceIte, reduceCtorEq, eq_false c1, c2, wrap_i64 _ w1, e0, e1]
      obtain ⟨h10, HF4, hB4⟩ := H.frameS [0] (by decide)
      refine calls_of (patch_reader_number_i0.ok hm HF4) ?_
      rintro _ h11 (⟨r5, v4, rfl, H', hm⟩ | ⟨p4, rfl, hs5, hm⟩)
      rotate_left
      · exact retQ_pan (T := tab) (rs := [(ResultVar.cell 2 24)]) (hB4.2.trans hs5) hm
      replace H := hB4.1 _ _ rfl H'
      have e0 := H.getP 0 rfl
      have e1 := H.getP 1 rfl
      simp (maxSteps := 4000000) -implicitDefEqProofs (disch := omega) only [push_cast, Nat.reduceAdd, Nat.reduceLeDiff, Nat.reduceMul, Nat.reduceSub, Nat.reduceLT, Nat.reduceEqDiff, Int.reduceAdd, Int.reduceSub, Int.reduceLE, Int.reduceLT, Int.reduceEq, Int.reduceNe, Int.reduceToNat, Int.reduceNeg, reduceIte, reduceCtorEq, eq_false c1, c2, wrap_i64 _ w1, e0, e1]
      refine H.newR [(aint 0), anil] rfl (fun b2 h12 H => ?_)
      have e0 := H.getP 0 rfl
      have e1 := H.getP 1 rfl
      have e3 := H.getP 3 rfl
      simp (maxSteps := 4000000) -implicitDefEqProofs (disch := omega) only [push_cast, Nat.reduceAdd, Nat.reduceLeDiff, Nat.reduceMul, Nat.reduceSub, Nat.reduceLT, Nat.reduceEqDiff, Int.reduceAdd, Int.reduceSub, Int.reduceLE, Int.reduceLT, Int.reduceEq, Int.reduceNe, Int.reduceToNat, Int.reduceNeg, reduceIte, reduceCtorEq, eq_false c1, c2, wrap_i64 _ w1, e0, e1, e3]
      refine H.stP 3 [(aint r5), anil] rfl rfl rfl rfl (Nat.le_of_ble_eq_true rfl) rfl (fun h13 H => ?_)
      have e0 := H.getP 0 rfl
      have e1 := H.getP 1 rfl
      have e3 := H.getP 3 rfl
      simp (maxSteps := 4000000) -implicitDefEqProofs (disch := omega) only [push_cast, Nat.reduceAdd, Nat.reduceLeDiff, Nat.reduceMul, Nat.reduceSub, Nat.reduceLT, Nat.reduceEqDiff, Int.reduceAdd, Int.reduceSub, Int.reduceLE, Int.reduceLT, Int.reduceEq, Int.reduceNe, Int.reduceToNat, Int.reduceNeg, reduceIte, reduceCtorEq, eq_false c1, c2, wrap_i64 _ w1, e0, e1, e3]
      obtain ⟨h14, HF5, hB5⟩ := H.frameS [0] (by decide)
      refine calls_of (patch_reader_number_i0.ok hm HF5) ?_
      rintro _ h15 (⟨r6, v5, rfl, H', hm⟩ | ⟨p5, rfl, hs6, hm⟩)
      rotate_left
      · exact retQ_pan (T := tab) (rs := [(ResultVar.cell 2 24)]) (hB5.2.trans hs6) hm
      replace H := hB5.1 _ _ rfl H'
      have e0 := H.getP 0 rfl
      have e1 := H.getP 1 rfl
      have e3 := H.getP 3 rfl
      simp (maxSteps := 4000000) -implicitDefEqProofs (disch := omega) only [push_cast, Nat.reduceAdd, Nat.reduceLeDiff, Nat.reduceMul, Nat.reduceSub, Nat.reduceLT, Nat.reduceEqDiff, Int.reduceAdd, Int.reduceSub, Int.reduceLE, Int.reduceLT, Int.reduceEq, Int.reduceNe, Int.reduceToNat, Int.reduceNeg, reduceIte, reduceCtorEq, eq_false c1, c2, wrap_i64 _ w1, e0, e1, e3]
      obtain ⟨inv2, mu2, hi2, hs7⟩ := hm
      replace H := H.addNil 1 (some (9, 0))
      replace H := H.perm [0, 1, 2, 3, 4] (by decide)
      refine awp_loop (σ := (PatchReader × Int × (List ByteArray) × Int) × AV × Hp) (fun ⟨⟨a5, a6, a7, a8⟩, x2, h16⟩ => ⟨(((((List.replicate 63 AV.any).set 0 (.optr b0_ 2 0 0)).set 2 (.optr b1 2 0 0)).set 7 (.optr b2 2 0 0)).set 43 (aint r6)).set 44 (aint a8), h16⟩) (fun ⟨⟨a5, a6, a7, a8⟩, x2, h16⟩ => inv2 (a5, a6, a7, a8) ∧ AM.Own h0 h16 [⟨(.optr b0_ 2 0 0), true, 2, [(PatchReader.enc a5)], some (58, 2)⟩, ⟨(.optr b1 2 0 0), true, 2, [[(aint a2), x1]], some (24, 2)⟩, ⟨x1, false, 2, a3.map ApiChange.enc, some (37, 0)⟩, ⟨(.optr b2 2 0 0), true, 2, [[(aint a6), x2]], some (37, 2)⟩, ⟨x2, false, 1, a7.map AM.encStr, some (9, 0)⟩]) (fun ⟨⟨a5, a6, a7, a8⟩, x2, h16⟩ => mu2 (a5, a6, a7, a8)) ⟨(v5, r5, ([] : List ByteArray), 0), anil, h15⟩ (Retell.weak (by simp [Weak, push_cast]) (Hp.sub.refl _)) ⟨hi2, H⟩ ?_
      rintro ⟨⟨a5, a6, a7, a8⟩, x2, h16⟩ ⟨hi2, H⟩
      have hm := hs7 _ hi2
      dsimp only at hm H ⊢
      have e0 := H.getP 0 rfl
      have e1 := H.getP 1 rfl
      have e3 := H.getP 3 rfl
      simp (maxSteps := 4000000) -implicitDefEqProofs (disch := omega) only [push_cast, Nat.reduceAdd, Nat.reduceLeDiff, Nat.reduceMul, Nat.reduceSub, Nat.reduceLT, Nat.reduceEqDiff, Int.reduceAdd, Int.reduceSub, Int.reduceLE, Int.reduceLT, Int.reduceEq, Int.reduceNe, Int.reduceToNat, Int.reduceNeg, reduceIte, reduceCtorEq, eq_false c1, c2, wrap_i64 _ w1, e0, e1, e3]
      rw [fork_cond]
      refine ⟨fun c3 => ?_, fun c3 => ?_⟩
      · replace hm := ifp hm c3
        have e0 := H.getP 0 rfl
        have e1 := H.getP 1 rfl
        have e3 := H.getP 3 rfl
        simp (maxSteps := 4000000) -implicitDefEqProofs (disch := omega) only [push_cast, Nat.reduceAdd, Nat.reduceLeDiff, Nat.reduceMul, Nat.reduceSub, Nat.reduceLT, Nat.reduceEqDiff, Int.reduceAdd, Int.reduceSub, Int.reduceLE, Int.reduceLT, Int.reduceEq, Int.reduceNe, Int.reduceToNat, Int.reduceNeg, reduceIte, reduceCtorEq, eq_false c1, c2, wrap_i64 _ w1, eq_true c3, e0, e1, e3]
        refine ⟨?_, ?_⟩
        · obtain ⟨h17, HF6, hB6⟩ := H.frameS [0] (by decide)
          refine calls_of (patch_reader_next_i0.ok hm HF6) ?_
          rintro _ h18 (⟨r7, v6, rfl, H', hm⟩ | ⟨p6, rfl, hs8, hm⟩)
          rotate_left
          · exact retQ_pan (T := tab) (rs := [(ResultVar.cell 2 24)]) (hB6.2.trans hs8) hm
          replace H := hB6.1 _ _ rfl H'
          have e0 := H.getP 0 rfl
          have e1 := H.getP 1 rfl
          have e3 := H.getP 3 rfl
          simp (maxSteps := 4000000) -implicitDefEqProofs (disch := omega) only [push_cast, Nat.reduceAdd, Nat.reduceLeDiff, Nat.reduceMul, Nat.reduceSub, Nat.reduceLT, Nat.reduceEqDiff, Int.reduceAdd, Int.reduceSub, Int.reduceLE, Int.reduceLT, Int.reduceEq, Int.reduceNe, Int.reduceToNat, Int.reduceNeg, reduceIte, reduceCtorEq, eq_false c1, c2, wrap_i64 _ w1, eq_true c3, e0, e1, e3]
          refine H.newL (E := AM.encStr) ([r7] : List ByteArray) rfl rfl (fun b3 h19 H => ?_)
          have e0 := H.getP 0 rfl
          have e1 := H.getP 1 rfl
          have e3 := H.getP 3 rfl
          simp (maxSteps := 4000000) -implicitDefEqProofs (disch := omega) only [push_cast, Nat.reduceAdd, Nat.reduceLeDiff, Nat.reduceMul, Nat.reduceSub, Nat.reduceLT, Nat.reduceEqDiff, Int.reduceAdd, Int.reduceSub, Int.reduceLE, Int.reduceLT, Int.reduceEq, Int.reduceNe, Int.reduceToNat, Int.reduceNeg, reduceIte, reduceCtorEq, eq_false c1, c2, wrap_i64 _ w1, eq_true c3, H.src (e := 9) 5 rfl, e0, e1, e3]
          obtain ⟨w2, hm⟩ := hm
          refine H.appL (E := AM.encStr) 4 ([r7] : List ByteArray) rfl rfl rfl (by decide) (by decide) w2 (fun x3 h20 H => ?_)
          have e0 := H.getP 0 rfl
          have e1 := H.getP 1 rfl
          have e3 := H.getP 3 rfl
          simp (maxSteps := 4000000) -implicitDefEqProofs (disch := omega) only [push_cast, Nat.reduceAdd, Nat.reduceLeDiff, Nat.reduceMul, Nat.reduceSub, Nat.reduceLT, Nat.reduceEqDiff, Int.reduceAdd, Int.reduceSub, Int.reduceLE, Int.reduceLT, Int.reduceEq, Int.reduceNe, Int.reduceToNat, Int.reduceNeg, reduceIte, reduceCtorEq, eq_false c1, c2, wrap_i64 _ w1, eq_true c3, e0, e1, e3]
          refine H.stP 3 [(aint a6), x3] rfl (H.ok 4 rfl).1 (H.ok 4 rfl).2 rfl (Nat.le_of_ble_eq_true rfl) rfl (fun h21 H => ?_)
          obtain ⟨w3, hm⟩ := hm
          have e0 := H.getP 0 rfl
          have e1 := H.getP 1 rfl
          have e3 := H.getP 3 rfl
          simp (maxSteps := 4000000) -implicitDefEqProofs (disch := omega) only [push_cast, Nat.reduceAdd, Nat.reduceLeDiff, Nat.reduceMul, Nat.reduceSub, Nat.reduceLT, Nat.reduceEqDiff, Int.reduceAdd, Int.reduceSub, Int.reduceLE, Int.reduceLT, Int.reduceEq, Int.reduceNe, Int.reduceToNat, Int.reduceNeg, reduceIte, reduceCtorEq, eq_false c1, c2, wrap_i64 _ w1, eq_true c3, wrap_i64 _ w3, e0, e1, e3]
          replace H := H.perm [0, 1, 2, 3, 4] (by decide)
          exact ⟨⟨(v6, a6, a7 ++ ([r7] : List ByteArray), a8 + 1), x3, h21⟩, hm.2, ⟨hm.1, H⟩, Retell.weak (by simp [Weak, push_cast]) (Hp.sub.refl _)⟩
        · obtain ⟨h17, HF6, hB6⟩ := H.frameS [0] (by decide)
          refine calls_of (patch_reader_next_i0.ok hm HF6) ?_
          rintro _ h18 (⟨r7, v6, rfl, H', hm⟩ | ⟨p6, rfl, hs8, hm⟩)
          rotate_left
          · exact retQ_pan (T := tab) (rs := [(ResultVar.cell 2 24)]) (hB6.2.trans hs8) hm
          replace H := hB6.1 _ _ rfl H'
          have e0 := H.getP 0 rfl
          have e1 := H.getP 1 rfl
          have e3 := H.getP 3 rfl
          simp (maxSteps := 4000000) -implicitDefEqProofs (disch := omega) only [push_cast, Nat.reduceAdd, Nat.reduceLeDiff, Nat.reduceMul, Nat.reduceSub, Nat.reduceLT, Nat.reduceEqDiff, Int.reduceAdd, Int.reduceSub, Int.reduceLE, Int.reduceLT, Int.reduceEq, Int.reduceNe, Int.reduceToNat, Int.reduceNeg, reduceIte, reduceCtorEq, eq_false c1, c2, wrap_i64 _ w1, eq_true c3, e0, e1, e3]
          refine H.newL (E := AM.encStr) ([r7] : List ByteArray) rfl rfl (fun b3 h19 H => ?_)
          have e0 := H.getP 0 rfl
          have e1 := H.getP 1 rfl
          have e3 := H.getP 3 rfl
          simp (maxSteps := 4000000) -implicitDefEqProofs (disch := omega) only [push_cast, Nat.reduceAdd, Nat.reduceLeDiff, Nat.reduceMul, Nat.reduceSub, Nat.reduceLT, Nat.reduceEqDiff, Int.reduceAdd, Int.reduceSub, Int.reduceLE, Int.reduceLT, Int.reduceEq, Int.reduceNe, Int.reduceToNat, Int.reduceNeg, reduceIte, reduceCtorEq, eq_false c1, c2, wrap_i64 _ w1, eq_true c3, H.src (e := 9) 5 rfl, e0, e1, e3]
          obtain ⟨w2, hm⟩ := hm
          refine H.appL (E := AM.encStr) 4 ([r7] : List ByteArray) rfl rfl rfl (by decide) (by decide) w2 (fun x3 h20 H => ?_)
          have e0 := H.getP 0 rfl
          have e1 := H.getP 1 rfl
          have e3 := H.getP 3 rfl
          simp (maxSteps := 4000000) -implicitDefEqProofs (disch := omega) only [push_cast, Nat.reduceAdd, Nat.reduceLeDiff, Nat.reduceMul, Nat.reduceSub, Nat.reduceLT, Nat.reduceEqDiff, Int.reduceAdd, Int.reduceSub, Int.reduceLE, Int.reduceLT, Int.reduceEq, Int.reduceNe, Int.reduceToNat, Int.reduceNeg, reduceIte, reduceCtorEq, eq_false c1, c2, wrap_i64 _ w1, eq_true c3, e0, e1, e3]
          refine H.stP 3 [(aint a6), x3] rfl (H.ok 4 rfl).1 (H.ok 4 rfl).2 rfl (Nat.le_of_ble_eq_true rfl) rfl (fun h21 H => ?_)
          obtain ⟨w3, hm⟩ := hm
          have e0 := H.getP 0 rfl
          have e1 := H.getP 1 rfl
          have e3 := H.getP 3 rfl
          simp (maxSteps := 4000000) -implicitDefEqProofs (disch := omega) only [push_cast, Nat.reduceAdd, Nat.reduceLeDiff, Nat.reduceMul, Nat.reduceSub, Nat.reduceLT, Nat.reduceEqDiff, Int.reduceAdd, Int.reduceSub, Int.reduceLE, Int.reduceLT, Int.reduceEq, Int.reduceNe, Int.reduceToNat, Int.reduceNeg, reduceIte, reduceCtorEq, eq_false c1, c2, wrap_i64 _ w1, eq_true c3, wrap_i64 _ w3, e0, e1, e3]
          replace H := H.perm [0, 1, 2, 3, 4] (by decide)
          exact ⟨⟨(v6, a6, a7 ++ ([r7] : List ByteArray), a8 + 1), x3, h21⟩, hm.2, ⟨hm.1, H⟩, Retell.weak (by simp [Weak, push_cast]) (Hp.sub.refl _)⟩
      · replace hm := ifn hm c3
        have e0 := H.getP 0 rfl
        have e1 := H.getP 1 rfl
        have e3 := H.getP 3 rfl
        simp (maxSteps := 4000000) -implicitDefEqProofs (disch := omega) only [push_cast, Nat.reduceAdd, Nat.reduceLeDiff, Nat.reduceMul, Nat.reduceSub, Nat.reduceLT, Nat.reduceEqDiff, Int.reduceAdd, Int.reduceSub, Int.reduceLE, Int.reduceLT, Int.reduceEq, Int.reduceNe, Int.reduceToNat, Int.reduceNeg, reduceIte, reduceCtorEq, eq_false c1, c2, wrap_i64 _ w1, eq_false c3, (H.ok 4 rfl).1, (H.ok 4 rfl).2, e0, e1, e3]
        refine H.newS (n := 1) (by rfl) (fun b4 h22 H => ?_)
        have e0 := H.getP 0 rfl
        have e1 := H.getP 1 rfl
        have e3 := H.getP 3 rfl
        simp (maxSteps := 4000000) -implicitDefEqProofs (disch := omega) only [push_cast, Nat.reduceAdd, Nat.reduceLeDiff, Nat.reduceMul, Nat.reduceSub, Nat.reduceLT, Nat.reduceEqDiff, Int.reduceAdd, Int.reduceSub, Int.reduceLE, Int.reduceLT, Int.reduceEq, Int.reduceNe, Int.reduceToNat, Int.reduceNeg, reduceIte, reduceCtorEq, eq_false c1, c2, wrap_i64 _ w1, eq_false c3, H.src (e := 37) 5 rfl, e0, e1, e3]
        obtain ⟨w4, hm⟩ := hm
        refine H.app 2 _ rfl rfl (by decide) (by decide) (by simpa using w4) (fun x4 h23 H => ?_)
        have e0 := H.getP 0 rfl
        have e1 := H.getP 1 rfl
        have e3 := H.getP 3 rfl
        simp (maxSteps := 4000000) -implicitDefEqProofs (disch := omega) only [push_cast, Nat.reduceAdd, Nat.reduceLeDiff, Nat.reduceMul, Nat.reduceSub, Nat.reduceLT, Nat.reduceEqDiff, Int.reduceAdd, Int.reduceSub, Int.reduceLE, Int.reduceLT, Int.reduceEq, Int.reduceNe, Int.reduceToNat, Int.reduceNeg, reduceIte, reduceCtorEq, eq_false c1, c2, wrap_i64 _ w1, eq_false c3, e0, e1, e3]
        refine H.stP 1 [(aint a2), x4] rfl (H.ok 2 rfl).1 (H.ok 2 rfl).2 rfl (Nat.le_of_ble_eq_true rfl) rfl (fun h24 H => ?_)
        have e0 := H.getP 0 rfl
        have e1 := H.getP 1 rfl
        have e3 := H.getP 3 rfl
        simp (maxSteps := 4000000) -implicitDefEqProofs (disch := omega) only [push_cast, Nat.reduceAdd, Nat.reduceLeDiff, Nat.reduceMul, Nat.reduceSub, Nat.reduceLT, Nat.reduceEqDiff, Int.reduceAdd, Int.reduceSub, Int.reduceLE, Int.reduceLT, Int.reduceEq, Int.reduceNe, Int.reduceToNat, Int.reduceNeg, reduceIte, reduceCtorEq, eq_false c1, c2, wrap_i64 _ w1, eq_false c3, e0, e1, e3]
        obtain ⟨h25, q1, H⟩ := H.cellLast 2 4 (by decide) 1 rfl rfl rfl
        replace H := H.typedLast (E := ApiChange.enc) 2 (⟨a6, a7⟩ : ApiChange) rfl rfl
        skip
        refine awp_ghost' _ (Hs.retell q1 _) ?_
        have e0 := H.getP 0 rfl
        have e1 := H.getP 1 rfl
        have e3 := H.getP 3 rfl
        simp (maxSteps := 4000000) -implicitDefEqProofs (disch := omega) only [push_cast, Nat.reduceAdd, Nat.reduceLeDiff, Nat.reduceMul, Nat.reduceSub, Nat.reduceLT, Nat.reduceEqDiff, Int.reduceAdd, Int.reduceSub, Int.reduceLE, Int.reduceLT, Int.reduceEq, Int.reduceNe, Int.reduceToNat, Int.reduceNeg, reduceIte, reduceCtorEq, eq_false c1, c2, wrap_i64 _ w1, eq_false c3, e0, e1, e3]
        replace H := H.perm [0, 1, 2] (by decide)
        exact ⟨⟨(a5, a2, a3 ++ ([(⟨a6, a7⟩ : ApiChange)] : List ApiChange), a6), x4, h25⟩, hm.2, ⟨hm.1, H⟩, Retell.weak (by simp [Weak, push_cast]) (Hp.sub.refl _)⟩
  · replace c1 := Decidable.not_not.1 c1
    replace hm := ifp hm c1
    have e0 := H.getP 0 rfl
    have e1 := H.getP 1 rfl
    simp (maxSteps := 4000000) -implicitDefEqProofs (disch := omega) only [push_cast, Nat.reduceAdd, Nat.reduceLeDiff, Nat.reduceMul, Nat.reduceSub, Nat.reduceLT, Nat.reduceEqDiff, Int.reduceAdd, Int.reduceSub, Int.reduceLE, Int.reduceLT, Int.reduceEq, Int.reduceNe, Int.reduceToNat, Int.reduceNeg, reduceIte, reduceCtorEq, eq_true c1, e0, e1]
    refine H.stP 1 [(aint a2), x1] rfl rfl rfl rfl (Nat.le_of_ble_eq_true rfl) rfl (fun h26 H => ?_)
    have e0 := H.getP 0 rfl
    have e1 := H.getP 1 rfl
    simp (maxSteps := 4000000) -implicitDefEqProofs (disch := omega) only [push_cast, Nat.reduceAdd, Nat.reduceLeDiff, Nat.reduceMul, Nat.reduceSub, Nat.reduceLT, Nat.reduceEqDiff, Int.reduceAdd, Int.reduceSub, Int.reduceLE, Int.reduceLT, Int.reduceEq, Int.reduceNe, Int.reduceToNat, Int.reduceNeg, reduceIte, reduceCtorEq, eq_true c1, e0, e1]
    have e0 := H.getP 0 rfl
    have e1 := H.getP 1 rfl
    obtain ⟨h27, s1, H⟩ := H.freeze 2 rfl
    replace H := H.perm [0] (by decide)
    refine retQ_or (.inl rfl) ?_
    exact retQ_o (.inl rfl) (x := (.agg [(aint a2), x1])) (by simp [aResults, resAll, resOne, push_cast, e0, e1]) (Shift.agg s1 [_] []) ⟨(⟨a2, a3⟩ : ApiPatch), a1, rfl, H, hm⟩
/-! stylus/styluslaw35.wide -/
abbrev n_styluslaw35_wide : Nat := 9
noncomputable def code_styluslaw35_wide : Code := match Tryd.f9.body with | some c => c | none => .skip
def ann_styluslaw35_wide : Nat → Ann
  | _ => {}
noncomputable def ac_styluslaw35_wide : AC :=
  (.seq (.reg [⟨some 2, (Op.assign (Operand.const (Value.bool false))), none, false⟩]) (.seq (.seq (.reg [⟨some 3, (Op.assign (Operand.const (Value.int IntKind.i64 0))), none, false⟩]) (.block 0 (.loop (.seq (.seq (.reg [⟨some 4, (Op.move (Operand.tmp 3)), none, false⟩, ⟨some 5, (Op.move (Operand.tmp 0)), none, false⟩, ⟨some 6, (Op.call (Call.mk (Callee.builtin Builtin.len) #[(Operand.tmp 5)] #[35])), none, false⟩, ⟨some 7, (Op.binOp BinOp.lss 3 (Operand.tmp 4) (Operand.tmp 6) 3), none, false⟩]) (.cond (Operand.tmp 7) .skip (.exit 0))) (.seq (.block 1 (.seq (.reg [⟨some 10, (Op.move (Operand.tmp 0)), none, false⟩, ⟨some 11, (Op.move (Operand.tmp 3)), none, false⟩, ⟨some 12, (Op.indexAddr 35 (Operand.tmp 10) (Operand.tmp 11)), none, false⟩, ⟨some 13, (Op.load 9 (Operand.tmp 12)), none, false⟩, ⟨some 14, (Op.call (Call.mk (Callee.builtin Builtin.len) #[(Operand.tmp 13)] #[9])), none, false⟩, ⟨some 15, (Op.binOp BinOp.gtr 3 (Operand.tmp 14) (Operand.const (Value.int IntKind.i64 200)) 3), none, false⟩]) (.cond (Operand.tmp 15) (.seq (.reg [⟨some 2, (Op.assign (Operand.const (Value.bool true))), none, false⟩]) .ret) .skip))) (.reg [⟨some 8, (Op.move (Operand.tmp 3)), none, false⟩, ⟨some 9, (Op.binOp BinOp.add 3 (Operand.tmp 8) (Operand.const (Value.int IntKind.i64 1)) 3), none, false⟩, ⟨some 3, (Op.assign (Operand.tmp 9)), none, false⟩])))))) (.seq (.reg [⟨some 16, (Op.move (Operand.tmp 0)), none, false⟩, ⟨some 17, (Op.call (Call.mk (Callee.builtin Builtin.len) #[(Operand.tmp 16)] #[35])), none, false⟩, ⟨some 18, (Op.binOp BinOp.gtr 3 (Operand.tmp 17) (Operand.const (Value.int IntKind.i64 60)) 3), none, false⟩, ⟨some 2, (Op.assign (Operand.tmp 18)), none, false⟩]) .ret)))
theorem body_styluslaw35_wide : Tryd.f9.body = some code_styluslaw35_wide := by kernel_rfl
theorem slim_styluslaw35_wide : slim ann_styluslaw35_wide code_styluslaw35_wide = some ac_styluslaw35_wide := by kernel_rfl
theorem name_styluslaw35_wide : (Tryd.f9.name == "runtime.NumGoroutine") = false := by kernel_rfl
theorem enter_styluslaw35_wide {args : List AV} {h : Hp} {Q : AE → Hp → Prop} (H : awp Tryd.prog tab ac_styluslaw35_wide (retQ tab [(ResultVar.tmp 2)] Q) ⟨args ++ List.replicate (19 - args.length) .any, h⟩) : ACalls Tryd.prog 9 args h Q :=
  acalls_of tab_ok mixed Tryd.func9 body_styluslaw35_wide name_styluslaw35_wide slim_styluslaw35_wide rfl Tryd.ntmps9 H
/-- stylus/styluslaw35.wide -/
def styluslaw35_wide.w (a0_ : List ByteArray) (Q : Bool → Prop) : Prop :=
  wloop (σ := Int) (fun a1 next1 =>
    if a1 < (a0_.length : Int) then
      (0 ≤ a1) ∧
      ∃ v1 : ByteArray, a0_[a1.toNat]? = some v1 ∧
      if 200 < (v1.size : Int) then
        Q true
      else
        (I64 (a1 + 1)) ∧
        next1 (a1 + 1)
    else
      Q (decide (60 < (a0_.length : Int)))) 0
theorem styluslaw35_wide.ok {a0_ : List ByteArray} {Q : Bool → Prop} (hm : styluslaw35_wide.w a0_ Q) (h0 : Hp) : ACalls Tryd.prog n_styluslaw35_wide [(.isl 1 (a0_.map AM.encStr))] h0 (Back h0 (fun r => (abool r)) Q) := by
  refine enter_styluslaw35_wide ?_
  unfold styluslaw35_wide.w at hm
  have H := AM.Own.nil h0
  simp (maxSteps := 4000000) -implicitDefEqProofs (disch := omega) only [push_cast, Nat.reduceAdd, Nat.reduceLeDiff, Nat.reduceMul, Nat.reduceSub, Nat.reduceLT, Nat.reduceEqDiff, Int.reduceAdd, Int.reduceSub, Int.reduceLE, Int.reduceLT, Int.reduceEq, Int.reduceNe, Int.reduceToNat, Int.reduceNeg, reduceIte, reduceCtorEq, ac_styluslaw35_wide]
  obtain ⟨inv1, mu1, hi1, hs1⟩ := hm
  replace H := H.perm [] (by decide)
  refine awp_loop (σ := Int × Hp) (fun ⟨a1, h1⟩ => ⟨((List.replicate 19 AV.any).set 0 (.isl 1 (a0_.map AM.encStr))).set 3 (aint a1), h1⟩) (fun ⟨a1, h1⟩ => inv1 a1 ∧ AM.Own h0 h1 []) (fun ⟨a1, h1⟩ => mu1 a1) ⟨0, h0⟩ (Retell.weak (by simp [Weak, push_cast]) (Hp.sub.refl _)) ⟨hi1, H⟩ ?_
  rintro ⟨a1, h1⟩ ⟨hi1, H⟩
  have hm := hs1 _ hi1
  dsimp only at hm H ⊢
  simp (maxSteps := 4000000) -implicitDefEqProofs (disch := omega) only [push_cast, Nat.reduceAdd, Nat.reduceLeDiff, Nat.reduceMul, Nat.reduceSub, Nat.reduceLT, Nat.reduceEqDiff, Int.reduceAdd, Int.reduceSub, Int.reduceLE, Int.reduceLT, Int.reduceEq, Int.reduceNe, Int.reduceToNat, Int.reduceNeg, reduceIte, reduceCtorEq]
  rw [fork_cond]
  refine ⟨fun c1 => ?_, fun c1 => ?_⟩
  · replace hm := ifp hm c1
    obtain ⟨z1, hm⟩ := hm
    obtain ⟨v1, i1, hm⟩ := hm
    simp (maxSteps := 4000000) -implicitDefEqProofs (disch := omega) only [push_cast, Nat.reduceAdd, Nat.reduceLeDiff, Nat.reduceMul, Nat.reduceSub, Nat.reduceLT, Nat.reduceEqDiff, Int.reduceAdd, Int.reduceSub, Int.reduceLE, Int.reduceLT, Int.reduceEq, Int.reduceNe, Int.reduceToNat, Int.reduceNeg, reduceIte, reduceCtorEq, eq_true c1, eq_true z1, i1]
    rw [fork_cond]
    refine ⟨fun c2 => ?_, fun c2 => ?_⟩
    · replace hm := ifp hm c2
      simp (maxSteps := 4000000) -implicitDefEqProofs (disch := omega) only [push_cast, Nat.reduceAdd, Nat.reduceLeDiff, Nat.reduceMul, Nat.reduceSub, Nat.reduceLT, Nat.reduceEqDiff, Int.reduceAdd, Int.reduceSub, Int.reduceLE, Int.reduceLT, Int.reduceEq, Int.reduceNe, Int.reduceToNat, Int.reduceNeg, reduceIte, reduceCtorEq, eq_true c1, eq_true z1, i1, eq_true c2]
      exact retQ_back (.inl rfl) true _ rfl (Shift.refl _ _) H.sub hm
    · replace hm := ifn hm c2
      obtain ⟨w1, hm⟩ := hm
      simp (maxSteps := 4000000) -implicitDefEqProofs (disch := omega) only [push_cast, Nat.reduceAdd, Nat.reduceLeDiff, Nat.reduceMul, Nat.reduceSub, Nat.reduceLT, Nat.reduceEqDiff, Int.reduceAdd, Int.reduceSub, Int.reduceLE, Int.reduceLT, Int.reduceEq, Int.reduceNe, Int.reduceToNat, Int.reduceNeg, reduceIte, reduceCtorEq, eq_true c1, eq_true z1, i1, eq_false c2, wrap_i64 _ w1]
      replace H := H.perm [] (by decide)
      exact ⟨⟨a1 + 1, h1⟩, hm.2, ⟨hm.1, H⟩, Retell.weak (by simp [Weak, push_cast]) (Hp.sub.refl _)⟩
  · replace hm := ifn hm c1
    simp (maxSteps := 4000000) -implicitDefEqProofs (disch := omega) only [push_cast, Nat.reduceAdd, Nat.reduceLeDiff, Nat.reduceMul, Nat.reduceSub, Nat.reduceLT, Nat.reduceEqDiff, Int.reduceAdd, Int.reduceSub, Int.reduceLE, Int.reduceLT, Int.reduceEq, Int.reduceNe, Int.reduceToNat, Int.reduceNeg, reduceIte, reduceCtorEq, eq_false c1]
    exact retQ_back (.inl rfl) (decide (60 < (a0_.length : Int))) _ rfl (Shift.refl _ _) H.sub hm
/-! stylus/styluslaw35.many -/
abbrev n_styluslaw35_many : Nat := 4
noncomputable def code_styluslaw35_many : Code := match Tryd.f4.body with | some c => c | none => .skip
def ann_styluslaw35_many : Nat → Ann
  | _ => {}
noncomputable def ac_styluslaw35_many : AC :=
  (.seq (.reg [⟨some 1, (Op.box 24 (Operand.tmp 0)), none, false⟩, ⟨some 2, (Op.assign (Operand.const (Value.bool false))), none, false⟩]) (.seq (.seq (.reg [⟨some 3, (Op.assign (Operand.const (Value.int IntKind.i64 0))), none, false⟩]) (.block 0 (.loop (.seq (.seq (.reg [⟨some 4, (Op.move (Operand.tmp 3)), none, false⟩, ⟨some 5, (Op.fieldAddr 24 (Operand.tmp 1) 1), none, false⟩, ⟨some 6, (Op.load 22 (Operand.tmp 5)), none, false⟩, ⟨some 7, (Op.call (Call.mk (Callee.builtin Builtin.len) #[(Operand.tmp 6)] #[22])), none, false⟩, ⟨some 8, (Op.binOp BinOp.lss 3 (Operand.tmp 4) (Operand.tmp 7) 3), none, false⟩]) (.cond (Operand.tmp 8) .skip (.exit 0))) (.seq (.block 1 (.seq (.reg [⟨some 11, (Op.fieldAddr 24 (Operand.tmp 1) 1), none, false⟩, ⟨some 12, (Op.load 22 (Operand.tmp 11)), none, false⟩, ⟨some 13, (Op.move (Operand.tmp 3)), none, false⟩, ⟨some 14, (Op.indexAddr 22 (Operand.tmp 12) (Operand.tmp 13)), none, false⟩, ⟨some 15, (Op.fieldAddr 37 (Operand.tmp 14) 1), none, false⟩, ⟨some 16, (Op.load 35 (Operand.tmp 15)), none, false⟩, ⟨some 17, (Op.call (Call.mk (Callee.value (Operand.func 9)) #[(Operand.tmp 16)] #[35])), none, false⟩]) (.cond (Operand.tmp 17) (.seq (.reg [⟨some 2, (Op.assign (Operand.const (Value.bool true))), none, false⟩]) .ret) .skip))) (.reg [⟨some 9, (Op.move (Operand.tmp 3)), none, false⟩, ⟨some 10, (Op.binOp BinOp.add 3 (Operand.tmp 9) (Operand.const (Value.int IntKind.i64 1)) 3), none, false⟩, ⟨some 3, (Op.assign (Operand.tmp 10)), none, false⟩])))))) (.seq (.reg [⟨some 18, (Op.fieldAddr 24 (Operand.tmp 1) 1), none, false⟩, ⟨some 19, (Op.load 22 (Operand.tmp 18)), none, false⟩, ⟨some 20, (Op.call (Call.mk (Callee.builtin Builtin.len) #[(Operand.tmp 19)] #[22])), none, false⟩, ⟨some 21, (Op.binOp BinOp.gtr 3 (Operand.tmp 20) (Operand.const (Value.int IntKind.i64 60)) 3), none, false⟩, ⟨some 2, (Op.assign (Operand.tmp 21)), none, false⟩]) .ret)))
theorem body_styluslaw35_many : Tryd.f4.body = some code_styluslaw35_many := by kernel_rfl
theorem slim_styluslaw35_many : slim ann_styluslaw35_many code_styluslaw35_many = some ac_styluslaw35_many := by kernel_rfl
theorem name_styluslaw35_many : (Tryd.f4.name == "runtime.NumGoroutine") = false := by kernel_rfl
theorem enter_styluslaw35_many {args : List AV} {h : Hp} {Q : AE → Hp → Prop} (H : awp Tryd.prog tab ac_styluslaw35_many (retQ tab [(ResultVar.tmp 2)] Q) ⟨args ++ List.replicate (22 - args.length) .any, h⟩) : ACalls Tryd.prog 4 args h Q :=
  acalls_of tab_ok mixed Tryd.func4 body_styluslaw35_many name_styluslaw35_many slim_styluslaw35_many rfl Tryd.ntmps4 H
/-- stylus/styluslaw35.many -/
def styluslaw35_many.w (a0_ : ApiPatch) (Q : Bool → Prop) : Prop :=
  wloop (σ := Int) (fun a1 next1 =>
    if a1 < (a0_.Changes.length : Int) then
      (0 ≤ a1) ∧
      ∃ v1 : ApiChange, a0_.Changes[a1.toNat]? = some v1 ∧
      styluslaw35_wide.w v1.Lines (fun r1 =>
        if r1 = true then
          Q true
        else
          (I64 (a1 + 1)) ∧
          next1 (a1 + 1))
    else
      Q (decide (60 < (a0_.Changes.length : Int)))) 0
theorem styluslaw35_many.ok {a0_ : ApiPatch} {Q : Bool → Prop} (hm : styluslaw35_many.w a0_ Q) (h0 : Hp) : ACalls Tryd.prog n_styluslaw35_many [(.agg (ApiPatch.enc a0_))] h0 (Back h0 (fun r => (abool r)) Q) := by
  refine enter_styluslaw35_many ?_
  unfold styluslaw35_many.w at hm
  have H := AM.Own.nil h0
  simp (maxSteps := 4000000) -implicitDefEqProofs (disch := omega) only [push_cast, Nat.reduceAdd, Nat.reduceLeDiff, Nat.reduceMul, Nat.reduceSub, Nat.reduceLT, Nat.reduceEqDiff, Int.reduceAdd, Int.reduceSub, Int.reduceLE, Int.reduceLT, Int.reduceEq, Int.reduceNe, Int.reduceToNat, Int.reduceNeg, reduceIte, reduceCtorEq, ac_styluslaw35_many]
  refine H.newR (ApiPatch.enc a0_) rfl (fun b1 h1 H => ?_)
  have e0 := H.getP 0 rfl
  simp (maxSteps := 4000000) -implicitDefEqProofs (disch := omega) only [push_cast, Nat.reduceAdd, Nat.reduceLeDiff, Nat.reduceMul, Nat.reduceSub, Nat.reduceLT, Nat.reduceEqDiff, Int.reduceAdd, Int.reduceSub, Int.reduceLE, Int.reduceLT, Int.reduceEq, Int.reduceNe, Int.reduceToNat, Int.reduceNeg, reduceIte, reduceCtorEq, e0]
  obtain ⟨inv1, mu1, hi1, hs1⟩ := hm
  replace H := H.perm [0] (by decide)
  refine awp_loop (σ := Int × Hp) (fun ⟨a1, h2⟩ => ⟨((List.replicate 22 AV.any).set 1 (.optr b1 2 0 0)).set 3 (aint a1), h2⟩) (fun ⟨a1, h2⟩ => inv1 a1 ∧ AM.Own h0 h2 [⟨(.optr b1 2 0 0), true, 2, [(ApiPatch.enc a0_)], some (24, 2)⟩]) (fun ⟨a1, h2⟩ => mu1 a1) ⟨0, h1⟩ (Retell.weak (by simp [Weak, push_cast]) (Hp.sub.refl _)) ⟨hi1, H⟩ ?_
  rintro ⟨a1, h2⟩ ⟨hi1, H⟩
  have hm := hs1 _ hi1
  dsimp only at hm H ⊢
  have e0 := H.getP 0 rfl
  simp (maxSteps := 4000000) -implicitDefEqProofs (disch := omega) only [push_cast, Nat.reduceAdd, Nat.reduceLeDiff, Nat.reduceMul, Nat.reduceSub, Nat.reduceLT, Nat.reduceEqDiff, Int.reduceAdd, Int.reduceSub, Int.reduceLE, Int.reduceLT, Int.reduceEq, Int.reduceNe, Int.reduceToNat, Int.reduceNeg, reduceIte, reduceCtorEq, e0]
  rw [fork_cond]
  refine ⟨fun c1 => ?_, fun c1 => ?_⟩
  · replace hm := ifp hm c1
    obtain ⟨z1, hm⟩ := hm
    obtain ⟨v1, i1, hm⟩ := hm
    have e0 := H.getP 0 rfl
    simp (maxSteps := 4000000) -implicitDefEqProofs (disch := omega) only [push_cast, Nat.reduceAdd, Nat.reduceLeDiff, Nat.reduceMul, Nat.reduceSub, Nat.reduceLT, Nat.reduceEqDiff, Int.reduceAdd, Int.reduceSub, Int.reduceLE, Int.reduceLT, Int.reduceEq, Int.reduceNe, Int.reduceToNat, Int.reduceNeg, reduceIte, reduceCtorEq, eq_true c1, eq_true z1, i1, e0]
    refine calls_w (fun h => styluslaw35_wide.ok hm h) (fun r1 hm => ?_)
    have e0 := H.getP 0 rfl
    simp (maxSteps := 4000000) -implicitDefEqProofs (disch := omega) only [push_cast, Nat.reduceAdd, Nat.reduceLeDiff, Nat.reduceMul, Nat.reduceSub, Nat.reduceLT, Nat.reduceEqDiff, Int.reduceAdd, Int.reduceSub, Int.reduceLE, Int.reduceLT, Int.reduceEq, Int.reduceNe, Int.reduceToNat, Int.reduceNeg, reduceIte, reduceCtorEq, eq_true c1, eq_true z1, i1, e0]
    rw [fork_bool]
    refine ⟨fun c2 => ?_, fun c2 => ?_⟩
    · replace hm := ifp hm c2
      have e0 := H.getP 0 rfl
      simp (maxSteps := 4000000) -implicitDefEqProofs (disch := omega) only [push_cast, Nat.reduceAdd, Nat.reduceLeDiff, Nat.reduceMul, Nat.reduceSub, Nat.reduceLT, Nat.reduceEqDiff, Int.reduceAdd, Int.reduceSub, Int.reduceLE, Int.reduceLT, Int.reduceEq, Int.reduceNe, Int.reduceToNat, Int.reduceNeg, reduceIte, reduceCtorEq, eq_true c1, eq_true z1, i1, c2, e0]
      exact retQ_back (.inl rfl) true _ rfl (Shift.refl _ _) H.sub hm
    · replace hm := ifn hm (by rw [c2]; exact Bool.false_ne_true)
      obtain ⟨w1, hm⟩ := hm
      have e0 := H.getP 0 rfl
      simp (maxSteps := 4000000) -implicitDefEqProofs (disch := omega) only [push_cast, Nat.reduceAdd, Nat.reduceLeDiff, Nat.reduceMul, Nat.reduceSub, Nat.reduceLT, Nat.reduceEqDiff, Int.reduceAdd, Int.reduceSub, Int.reduceLE, Int.reduceLT, Int.reduceEq, Int.reduceNe, Int.reduceToNat, Int.reduceNeg, reduceIte, reduceCtorEq, eq_true c1, eq_true z1, i1, c2, wrap_i64 _ w1, e0]
      replace H := H.perm [0] (by decide)
      exact ⟨⟨a1 + 1, h2⟩, hm.2, ⟨hm.1, H⟩, Retell.weak (by simp [Weak, push_cast]) (Hp.sub.refl _)⟩
  · replace hm := ifn hm c1
    have e0 := H.getP 0 rfl
    simp (maxSteps := 4000000) -implicitDefEqProofs (disch := omega) only [push_cast, Nat.reduceAdd, Nat.reduceLeDiff, Nat.reduceMul, Nat.reduceSub, Nat.reduceLT, Nat.reduceEqDiff, Int.reduceAdd, Int.reduceSub, Int.reduceLE, Int.reduceLT, Int.reduceEq, Int.reduceNe, Int.reduceToNat, Int.reduceNeg, reduceIte, reduceCtorEq, eq_false c1, e0]
    exact retQ_back (.inl rfl) (decide (60 < (a0_.Changes.length : Int))) _ rfl (Shift.refl _ _) H.sub hm
/-! slices.Equal[[]string,string] -/
abbrev n_slices_Equal_string_string : Nat := 20
noncomputable def code_slices_Equal_string_string : Code := match Tryd.f20.body with | some c => c | none => .skip
def ann_slices_Equal_string_string : Nat → Ann
  | 6 => { pure := [], plan := (.op 0 (.op 1 (.op 2 (.op 3 (.op 4 (.op 5 (.op 6 (.op 7 (.op 8 .done))))))))), ghost := false, post := false }
  | _ => {}
noncomputable def ac_slices_Equal_string_string : AC :=
  (.seq (.reg [⟨some 4, (Op.assign (Operand.const (Value.bool false))), none, false⟩]) (.seq (.seq (.reg [⟨some 6, (Op.move (Operand.tmp 0)), none, false⟩, ⟨some 7, (Op.call (Call.mk (Callee.builtin Builtin.len) #[(Operand.tmp 6)] #[35])), none, false⟩, ⟨some 8, (Op.move (Operand.tmp 1)), none, false⟩, ⟨some 9, (Op.call (Call.mk (Callee.builtin Builtin.len) #[(Operand.tmp 8)] #[35])), none, false⟩, ⟨some 10, (Op.binOp BinOp.neq 3 (Operand.tmp 7) (Operand.tmp 9) 3), none, false⟩]) (.cond (Operand.tmp 10) (.seq (.reg [⟨some 4, (Op.assign (Operand.const (Value.bool false))), none, false⟩]) .ret) .skip)) (.seq (.seq (.reg [⟨some 11, (Op.move (Operand.tmp 0)), none, false⟩, ⟨some 12, (Op.call (Call.mk (Callee.builtin Builtin.len) #[(Operand.tmp 11)] #[35])), none, false⟩, ⟨some 13, (Op.move (Operand.const (Value.int IntKind.i64 0))), none, false⟩]) (.block 0 (.loop (.seq (.reg [⟨some 14, (Op.binOp BinOp.lss 3 (Operand.tmp 13) (Operand.tmp 12) 3), none, false⟩]) (.seq (.cond (Operand.tmp 14) .skip (.exit 0)) (.seq (.block 1 (.seq (.reg [⟨some 15, (Op.move (Operand.tmp 13)), none, false⟩, ⟨some 5, (Op.assign (Operand.tmp 15)), none, false⟩]) (.seq (.draw [⟨some 16, (Op.move (Operand.tmp 0)), none, false⟩, ⟨some 17, (Op.move (Operand.tmp 5)), none, false⟩, ⟨some 18, (Op.indexAddr 35 (Operand.tmp 16) (Operand.tmp 17)), none, false⟩, ⟨some 19, (Op.load 9 (Operand.tmp 18)), none, false⟩, ⟨some 20, (Op.move (Operand.tmp 1)), none, false⟩, ⟨some 21, (Op.move (Operand.tmp 5)), none, false⟩, ⟨some 22, (Op.indexAddr 35 (Operand.tmp 20) (Operand.tmp 21)), none, false⟩, ⟨some 23, (Op.load 9 (Operand.tmp 22)), none, false⟩, ⟨some 24, (Op.binOp BinOp.neq 9 (Operand.tmp 19) (Operand.tmp 23) 9), none, false⟩] (.op 0 (.op 1 (.op 2 (.op 3 (.op 4 (.op 5 (.op 6 (.op 7 (.op 8 .done)))))))))) (.cond (Operand.tmp 24) (.seq (.reg [⟨some 4, (Op.assign (Operand.const (Value.bool false))), none, false⟩]) .ret) .skip)))) (.reg [⟨some 25, (Op.binOp BinOp.add 3 (Operand.tmp 13) (Operand.const (Value.int IntKind.i64 1)) 3), none, false⟩, ⟨some 13, (Op.move (Operand.tmp 25)), none, false⟩]))))))) (.seq (.reg [⟨some 4, (Op.assign (Operand.const (Value.bool true))), none, false⟩]) .ret))))
theorem body_slices_Equal_string_string : Tryd.f20.body = some code_slices_Equal_string_string := by kernel_rfl
theorem slim_slices_Equal_string_string : slim ann_slices_Equal_string_string code_slices_Equal_string_string = some ac_slices_Equal_string_string := by kernel_rfl
theorem name_slices_Equal_string_string : (Tryd.f20.name == "runtime.NumGoroutine") = false := by kernel_rfl
theorem enter_slices_Equal_string_string {args : List AV} {h : Hp} {Q : AE → Hp → Prop} (H : awp Tryd.prog tab ac_slices_Equal_string_string (retQ tab [(ResultVar.tmp 4)] Q) ⟨args ++ List.replicate (26 - args.length) .any, h⟩) : ACalls Tryd.prog 20 args h Q :=
  acalls_of tab_ok mixed Tryd.func20 body_slices_Equal_string_string name_slices_Equal_string_string slim_slices_Equal_string_string rfl Tryd.ntmps20 H
/-- slices.Equal[[]string,string] -/
def slices_Equal_string_string.w (a0_ : List ByteArray) (a1_ : List ByteArray) (Q : Bool → Prop) : Prop :=
  if (a0_.length : Int) = (a1_.length : Int) then
    wloop (σ := Int) (fun a1 next1 =>
      if a1 < (a0_.length : Int) then
        (0 ≤ a1) ∧
        ∃ v1 : ByteArray, a0_[a1.toNat]? = some v1 ∧
        ∃ v2 : ByteArray, a1_[a1.toNat]? = some v2 ∧
        if v1 = v2 then
          (I64 (a1 + 1)) ∧
          next1 (a1 + 1)
        else
          Q false
      else
        Q true) 0
  else
    Q false
theorem slices_Equal_string_string.ok {a0_ : List ByteArray} {a1_ : List ByteArray} {Q : Bool → Prop} (hm : slices_Equal_string_string.w a0_ a1_ Q) (h0 : Hp) : ACalls Tryd.prog n_slices_Equal_string_string [(.isl 1 (a0_.map AM.encStr)), (.isl 1 (a1_.map AM.encStr))] h0 (Back h0 (fun r => (abool r)) Q) := by
  refine enter_slices_Equal_string_string ?_
  unfold slices_Equal_string_string.w at hm
  have H := AM.Own.nil h0
  simp (maxSteps := 4000000) -implicitDefEqProofs (disch := omega) only [push_cast, Nat.reduceAdd, Nat.reduceLeDiff, Nat.reduceMul, Nat.reduceSub, Nat.reduceLT, Nat.reduceEqDiff, Int.reduceAdd, Int.reduceSub, Int.reduceLE, Int.reduceLT, Int.reduceEq, Int.reduceNe, Int.reduceToNat, Int.reduceNeg, reduceIte, reduceCtorEq, ac_slices_Equal_string_string]
  rw [fork_cond]
  refine ⟨fun c1 => ?_, fun c1 => ?_⟩
  · replace hm := ifn hm c1
    simp (maxSteps := 4000000) -implicitDefEqProofs (disch := omega) only [push_cast, Nat.reduceAdd, Nat.reduceLeDiff, Nat.reduceMul, Nat.reduceSub, Nat.reduceLT, Nat.reduceEqDiff, Int.reduceAdd, Int.reduceSub, Int.reduceLE, Int.reduceLT, Int.reduceEq, Int.reduceNe, Int.reduceToNat, Int.reduceNeg, reduceIte, reduceCtorEq, eq_false c1]
    exact retQ_back (.inl rfl) false _ rfl (Shift.refl _ _) H.sub hm
  · replace c1 := Decidable.not_not.1 c1
    replace hm := ifp hm c1
    simp (maxSteps := 4000000) -implicitDefEqProofs (disch := omega) only [push_cast, Nat.reduceAdd, Nat.reduceLeDiff, Nat.reduceMul, Nat.reduceSub, Nat.reduceLT, Nat.reduceEqDiff, Int.reduceAdd, Int.reduceSub, Int.reduceLE, Int.reduceLT, Int.reduceEq, Int.reduceNe, Int.reduceToNat, Int.reduceNeg, reduceIte, reduceCtorEq, eq_true c1]
    obtain ⟨inv1, mu1, hi1, hs1⟩ := hm
    replace H := H.perm [] (by decide)
    refine awp_loop (σ := Int × Hp) (fun ⟨a1, h1⟩ => ⟨((((List.replicate 26 AV.any).set 0 (.isl 1 (a0_.map AM.encStr))).set 1 (.isl 1 (a1_.map AM.encStr))).set 12 (aint (a0_.length : Int))).set 13 (aint a1), h1⟩) (fun ⟨a1, h1⟩ => inv1 a1 ∧ AM.Own h0 h1 []) (fun ⟨a1, h1⟩ => mu1 a1) ⟨0, h0⟩ (Retell.weak (by simp [Weak, push_cast]) (Hp.sub.refl _)) ⟨hi1, H⟩ ?_
    rintro ⟨a1, h1⟩ ⟨hi1, H⟩
    have hm := hs1 _ hi1
    dsimp only at hm H ⊢
    simp (maxSteps := 4000000) -implicitDefEqProofs (disch := omega) only [push_cast, Nat.reduceAdd, Nat.reduceLeDiff, Nat.reduceMul, Nat.reduceSub, Nat.reduceLT, Nat.reduceEqDiff, Int.reduceAdd, Int.reduceSub, Int.reduceLE, Int.reduceLT, Int.reduceEq, Int.reduceNe, Int.reduceToNat, Int.reduceNeg, reduceIte, reduceCtorEq, eq_true c1]
    rw [fork_cond]
    refine ⟨fun c2 => ?_, fun c2 => ?_⟩
    · replace hm := ifp hm c2
      obtain ⟨z1, hm⟩ := hm
      obtain ⟨v1, i1, hm⟩ := hm
      obtain ⟨v2, i2, hm⟩ := hm
      simp (maxSteps := 4000000) -implicitDefEqProofs (disch := omega) only [push_cast, Nat.reduceAdd, Nat.reduceLeDiff, Nat.reduceMul, Nat.reduceSub, Nat.reduceLT, Nat.reduceEqDiff, Int.reduceAdd, Int.reduceSub, Int.reduceLE, Int.reduceLT, Int.reduceEq, Int.reduceNe, Int.reduceToNat, Int.reduceNeg, reduceIte, reduceCtorEq, eq_true c1, eq_true c2, eq_true z1, i1, i2]
      rw [fork_cond]
      refine ⟨fun c3 => ?_, fun c3 => ?_⟩
      · replace hm := ifn hm c3
        simp (maxSteps := 4000000) -implicitDefEqProofs (disch := omega) only [push_cast, Nat.reduceAdd, Nat.reduceLeDiff, Nat.reduceMul, Nat.reduceSub, Nat.reduceLT, Nat.reduceEqDiff, Int.reduceAdd, Int.reduceSub, Int.reduceLE, Int.reduceLT, Int.reduceEq, Int.reduceNe, Int.reduceToNat, Int.reduceNeg, reduceIte, reduceCtorEq, eq_true c1, eq_true c2, eq_true z1, i1, i2, eq_false c3]
        exact retQ_back (.inl rfl) false _ rfl (Shift.refl _ _) H.sub hm
      · replace c3 := Decidable.not_not.1 c3
        replace hm := ifp hm c3
        obtain ⟨w1, hm⟩ := hm
        simp (maxSteps := 4000000) -implicitDefEqProofs (disch := omega) only [push_cast, Nat.reduceAdd, Nat.reduceLeDiff, Nat.reduceMul, Nat.reduceSub, Nat.reduceLT, Nat.reduceEqDiff, Int.reduceAdd, Int.reduceSub, Int.reduceLE, Int.reduceLT, Int.reduceEq, Int.reduceNe, Int.reduceToNat, Int.reduceNeg, reduceIte, reduceCtorEq, eq_true c1, eq_true c2, eq_true z1, i1, i2, eq_true c3, wrap_i64 _ w1]
        replace H := H.perm [] (by decide)
        exact ⟨⟨a1 + 1, h1⟩, hm.2, ⟨hm.1, H⟩, Retell.weak (by simp [Weak, push_cast]) (Hp.sub.refl _)⟩
    · replace hm := ifn hm c2
      simp (maxSteps := 4000000) -implicitDefEqProofs (disch := omega) only [push_cast, Nat.reduceAdd, Nat.reduceLeDiff, Nat.reduceMul, Nat.reduceSub, Nat.reduceLT, Nat.reduceEqDiff, Int.reduceAdd, Int.reduceSub, Int.reduceLE, Int.reduceLT, Int.reduceEq, Int.reduceNe, Int.reduceToNat, Int.reduceNeg, reduceIte, reduceCtorEq, eq_true c1, eq_false c2]
      exact retQ_back (.inl rfl) true _ rfl (Shift.refl _ _) H.sub hm
/-! slices.Clone[[]string,string] -/
abbrev n_slices_Clone_string_string : Nat := 21
noncomputable def code_slices_Clone_string_string : Code := match Tryd.f21.body with | some c => c | none => .skip
def ann_slices_Clone_string_string : Nat → Ann
  | _ => {}
noncomputable def ac_slices_Clone_string_string : AC :=
  (.seq (.reg [⟨some 2, (Op.assign (Operand.const (Value.slice none 0 0))), none, false⟩]) (.seq (.seq (.reg [⟨some 3, (Op.move (Operand.tmp 0)), none, false⟩, ⟨some 4, (Op.binOp BinOp.eql 35 (Operand.tmp 3) (Operand.const (Value.slice none 0 0)) 35), none, false⟩]) (.cond (Operand.tmp 4) (.seq (.reg [⟨some 2, (Op.assign (Operand.const (Value.slice none 0 0))), none, false⟩]) .ret) .skip)) (.seq (.reg [⟨some 5, (Op.buildSlice 35 0 #[]), none, false⟩, ⟨some 6, (Op.move (Operand.tmp 0)), none, false⟩, ⟨some 7, (Op.call (Call.mk (Callee.builtin Builtin.append) #[(Operand.tmp 5), (Operand.tmp 6)] #[35, 35])), none, false⟩, ⟨some 2, (Op.assign (Operand.tmp 7)), none, false⟩]) .ret)))
theorem body_slices_Clone_string_string : Tryd.f21.body = some code_slices_Clone_string_string := by kernel_rfl
theorem slim_slices_Clone_string_string : slim ann_slices_Clone_string_string code_slices_Clone_string_string = some ac_slices_Clone_string_string := by kernel_rfl
theorem name_slices_Clone_string_string : (Tryd.f21.name == "runtime.NumGoroutine") = false := by kernel_rfl
theorem enter_slices_Clone_string_string {args : List AV} {h : Hp} {Q : AE → Hp → Prop} (H : awp Tryd.prog tab ac_slices_Clone_string_string (retQ tab [(ResultVar.tmp 2)] Q) ⟨args ++ List.replicate (8 - args.length) .any, h⟩) : ACalls Tryd.prog 21 args h Q :=
  acalls_of tab_ok mixed Tryd.func21 body_slices_Clone_string_string name_slices_Clone_string_string slim_slices_Clone_string_string rfl Tryd.ntmps21 H
/-- slices.Clone[[]string,string] -/
def slices_Clone_string_string.w (a0_ : List ByteArray) (Q : (List ByteArray) → Prop) : Prop :=
  (a0_ = [] →
    Q ([] : List ByteArray)) ∧ (
    ((([] : List ByteArray).length + a0_.length) * 16 ≤ 140737488355328) ∧
    Q a0_)
theorem slices_Clone_string_string.ok {a0_ : List ByteArray} {Q : (List ByteArray) → Prop} (hm : slices_Clone_string_string.w a0_ Q) (h0 : Hp) : ACalls Tryd.prog n_slices_Clone_string_string [(.isl 1 (a0_.map AM.encStr))] h0 (Back h0 (fun r => (.isl 1 (r.map AM.encStr))) Q) := by
  refine enter_slices_Clone_string_string ?_
  unfold slices_Clone_string_string.w at hm
  have H := AM.Own.nil h0
  simp (maxSteps := 4000000) -implicitDefEqProofs (disch := omega) only [push_cast, Nat.reduceAdd, Nat.reduceLeDiff, Nat.reduceMul, Nat.reduceSub, Nat.reduceLT, Nat.reduceEqDiff, Int.reduceAdd, Int.reduceSub, Int.reduceLE, Int.reduceLT, Int.reduceEq, Int.reduceNe, Int.reduceToNat, Int.reduceNeg, reduceIte, reduceCtorEq, ac_slices_Clone_string_string]
  refine nilK_eql_isl _ _ ⟨fun c => ?_, ?_⟩
  · replace hm := hm.1 (by simpa using c)
    simp (maxSteps := 4000000) -implicitDefEqProofs (disch := omega) only [push_cast, Nat.reduceAdd, Nat.reduceLeDiff, Nat.reduceMul, Nat.reduceSub, Nat.reduceLT, Nat.reduceEqDiff, Int.reduceAdd, Int.reduceSub, Int.reduceLE, Int.reduceLT, Int.reduceEq, Int.reduceNe, Int.reduceToNat, Int.reduceNeg, reduceIte, reduceCtorEq]
    exact retQ_back (.inl rfl) ([] : List ByteArray) _ rfl (Shift.nil _ 1) H.sub hm
  · replace hm := hm.2
    simp (maxSteps := 4000000) -implicitDefEqProofs (disch := omega) only [push_cast, Nat.reduceAdd, Nat.reduceLeDiff, Nat.reduceMul, Nat.reduceSub, Nat.reduceLT, Nat.reduceEqDiff, Int.reduceAdd, Int.reduceSub, Int.reduceLE, Int.reduceLT, Int.reduceEq, Int.reduceNe, Int.reduceToNat, Int.reduceNeg, reduceIte, reduceCtorEq]
    refine H.newL (E := AM.encStr) ([] : List ByteArray) rfl rfl (fun b1 h1 H => ?_)
    simp (maxSteps := 4000000) -implicitDefEqProofs (disch := omega) only [push_cast, Nat.reduceAdd, Nat.reduceLeDiff, Nat.reduceMul, Nat.reduceSub, Nat.reduceLT, Nat.reduceEqDiff, Int.reduceAdd, Int.reduceSub, Int.reduceLE, Int.reduceLT, Int.reduceEq, Int.reduceNe, Int.reduceToNat, Int.reduceNeg, reduceIte, reduceCtorEq]
    obtain ⟨w1, hm⟩ := hm
    refine H.appL (E := AM.encStr) 0 a0_ rfl rfl rfl (by decide) (by decide) w1 (fun x1 h2 H => ?_)
    replace H : AM.Own h0 h2 [⟨x1, false, 1, a0_.map AM.encStr, some (9, 0)⟩] := H
    simp (maxSteps := 4000000) -implicitDefEqProofs (disch := omega) only [push_cast, Nat.reduceAdd, Nat.reduceLeDiff, Nat.reduceMul, Nat.reduceSub, Nat.reduceLT, Nat.reduceEqDiff, Int.reduceAdd, Int.reduceSub, Int.reduceLE, Int.reduceLT, Int.reduceEq, Int.reduceNe, Int.reduceToNat, Int.reduceNeg, reduceIte, reduceCtorEq]
    obtain ⟨h3, s1, H⟩ := H.freeze 0 rfl
    exact retQ_back (.inl rfl) a0_ _ rfl s1 H.sub hm
end Go.Proofs.YtggcmnoacplbkaaDoor
