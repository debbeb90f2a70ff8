/- Functions of the program: code, what is asked for their answers, the walk (printed by pr.py). -/
import Derived.Test.YtggcmnoacplbkaaDoorWA2
namespace Go.Proofs.YtggcmnoacplbkaaDoor
open Go Go.Proofs.YtggcmnoacplbkaaDoor.AM
set_option maxRecDepth 100000
set_option linter.unusedSimpArgs false
set_option linter.unusedVariables false
set_option maxHeartbeats 4000000
/-! stylus/patch.Write -/
abbrev n_patch_Write : Nat := 6
noncomputable def code_patch_Write : Code := match Tryd.f6.body with | some c => c | none => .skip
def ann_patch_Write : Nat → Ann
  | 8 => { pure := [2, 8], plan := (.op 0 (.op 1 (.op 2 (.op 3 (.op 4 (.op 5 (.op 6 (.op 7 (.op 8 (.op 9 (.op 10 (.op 11 .done)))))))))))), ghost := false, post := false }
  | _ => {}
noncomputable def ac_patch_Write : AC :=
  (.seq (.reg [⟨some 1, (Op.box 24 (Operand.tmp 0)), none, false⟩, ⟨some 2, (Op.assign (Operand.const (Value.string (ByteArray.mk #[])))), none, false⟩, ⟨some 3, (Op.assign (Operand.const (Value.int IntKind.i64 0))), none, false⟩]) (.seq (.seq (.reg [⟨some 9, (Op.load 24 (Operand.tmp 1)), none, false⟩, ⟨some 10, (Op.call (Call.mk (Callee.value (Operand.func 13)) #[(Operand.tmp 9)] #[24])), none, false⟩, ⟨some 11, (Op.unOp UnOp.not 4 (Operand.tmp 10)), none, false⟩]) (.cond (Operand.tmp 11) (.seq (.reg [⟨some 2, (Op.assign (Operand.const (Value.string (ByteArray.mk #[])))), none, false⟩, ⟨some 3, (Op.assign (Operand.const (Value.int IntKind.i64 1))), none, false⟩]) .ret) .skip)) (.seq (.reg [⟨some 4, (Op.alloc 46), none, false⟩]) (.seq (.reg [⟨some 12, (Op.fieldAddr 24 (Operand.tmp 1) 0), none, false⟩, ⟨some 13, (Op.load 3 (Operand.tmp 12)), none, false⟩, ⟨some 14, (Op.call (Call.mk (Callee.value (Operand.func 15)) #[(Operand.tmp 13)] #[3])), none, false⟩, ⟨some 15, (Op.binOp BinOp.add 9 (Operand.const (Value.string (ByteArray.mk #[112, 97, 103, 101, 115, 32]))) (Operand.tmp 14) 9), none, false⟩, ⟨some 16, (Op.binOp BinOp.add 9 (Operand.tmp 15) (Operand.const (Value.string (ByteArray.mk #[10]))) 9), none, false⟩, ⟨some 17, (Op.call (Call.mk (Callee.value (Operand.func 14)) #[(Operand.tmp 4), (Operand.tmp 16)] #[46, 9])), none, false⟩]) (.seq (.seq (.reg [⟨some 18, (Op.fieldAddr 24 (Operand.tmp 1) 1), none, false⟩, ⟨some 19, (Op.load 22 (Operand.tmp 18)), none, false⟩, ⟨some 20, (Op.call (Call.mk (Callee.builtin Builtin.len) #[(Operand.tmp 19)] #[22])), none, false⟩, ⟨some 21, (Op.move (Operand.const (Value.int IntKind.i64 0))), none, false⟩]) (.block 0 (.loop (.seq (.reg [⟨some 22, (Op.binOp BinOp.lss 3 (Operand.tmp 21) (Operand.tmp 20) 3), none, false⟩]) (.seq (.cond (Operand.tmp 22) .skip (.exit 0)) (.seq (.block 1 (.seq (.reg [⟨some 23, (Op.indexAddr 22 (Operand.tmp 19) (Operand.tmp 21)), none, false⟩, ⟨some 24, (Op.load 37 (Operand.tmp 23)), none, false⟩, ⟨some 6, (Op.alloc 37), none, false⟩, ⟨none, (Op.store 37 (Operand.tmp 6) (Operand.tmp 24)), none, false⟩]) (.seq (.draw [⟨some 25, (Op.fieldAddr 37 (Operand.tmp 6) 0), none, false⟩, ⟨some 26, (Op.load 3 (Operand.tmp 25)), none, false⟩, ⟨some 27, (Op.call (Call.mk (Callee.value (Operand.func 15)) #[(Operand.tmp 26)] #[3])), none, true⟩, ⟨some 28, (Op.binOp BinOp.add 9 (Operand.const (Value.string (ByteArray.mk #[112, 97, 103, 101, 32]))) (Operand.tmp 27) 9), none, false⟩, ⟨some 29, (Op.binOp BinOp.add 9 (Operand.tmp 28) (Operand.const (Value.string (ByteArray.mk #[32]))) 9), none, false⟩, ⟨some 30, (Op.fieldAddr 37 (Operand.tmp 6) 1), none, false⟩, ⟨some 31, (Op.load 35 (Operand.tmp 30)), none, false⟩, ⟨some 32, (Op.call (Call.mk (Callee.builtin Builtin.len) #[(Operand.tmp 31)] #[35])), none, false⟩, ⟨some 33, (Op.call (Call.mk (Callee.value (Operand.func 15)) #[(Operand.tmp 32)] #[3])), none, true⟩, ⟨some 34, (Op.binOp BinOp.add 9 (Operand.tmp 29) (Operand.tmp 33) 9), none, false⟩, ⟨some 35, (Op.binOp BinOp.add 9 (Operand.tmp 34) (Operand.const (Value.string (ByteArray.mk #[10]))) 9), none, false⟩, ⟨some 36, (Op.call (Call.mk (Callee.value (Operand.func 14)) #[(Operand.tmp 4), (Operand.tmp 35)] #[46, 9])), none, false⟩] (.op 0 (.op 1 (.op 2 (.op 3 (.op 4 (.op 5 (.op 6 (.op 7 (.op 8 (.op 9 (.op 10 (.op 11 .done))))))))))))) (.seq (.reg [⟨some 37, (Op.fieldAddr 37 (Operand.tmp 6) 1), none, false⟩, ⟨some 38, (Op.load 35 (Operand.tmp 37)), none, false⟩, ⟨some 39, (Op.call (Call.mk (Callee.builtin Builtin.len) #[(Operand.tmp 38)] #[35])), none, false⟩, ⟨some 40, (Op.move (Operand.const (Value.int IntKind.i64 0))), none, false⟩]) (.block 2 (.loop (.seq (.reg [⟨some 41, (Op.binOp BinOp.lss 3 (Operand.tmp 40) (Operand.tmp 39) 3), none, false⟩]) (.seq (.cond (Operand.tmp 41) .skip (.exit 2)) (.seq (.block 3 (.seq (.reg [⟨some 42, (Op.indexAddr 35 (Operand.tmp 38) (Operand.tmp 40)), none, false⟩, ⟨some 43, (Op.load 9 (Operand.tmp 42)), none, false⟩, ⟨some 8, (Op.assign (Operand.tmp 43)), none, false⟩]) (.reg [⟨some 44, (Op.move (Operand.tmp 8)), none, false⟩, ⟨some 45, (Op.binOp BinOp.add 9 (Operand.const (Value.string (ByteArray.mk #[62]))) (Operand.tmp 44) 9), none, false⟩, ⟨some 46, (Op.binOp BinOp.add 9 (Operand.tmp 45) (Operand.const (Value.string (ByteArray.mk #[10]))) 9), none, false⟩, ⟨some 47, (Op.call (Call.mk (Callee.value (Operand.func 14)) #[(Operand.tmp 4), (Operand.tmp 46)] #[46, 9])), none, false⟩]))) (.reg [⟨some 48, (Op.binOp BinOp.add 3 (Operand.tmp 40) (Operand.const (Value.int IntKind.i64 1)) 3), none, false⟩, ⟨some 40, (Op.move (Operand.tmp 48)), none, false⟩])))))))))) (.reg [⟨some 49, (Op.binOp BinOp.add 3 (Operand.tmp 21) (Operand.const (Value.int IntKind.i64 1)) 3), none, false⟩, ⟨some 21, (Op.move (Operand.tmp 49)), none, false⟩]))))))) (.seq (.reg [⟨some 50, (Op.call (Call.mk (Callee.value (Operand.func 16)) #[(Operand.tmp 4)] #[46])), none, false⟩, ⟨some 2, (Op.assign (Operand.tmp 50)), none, false⟩, ⟨some 3, (Op.assign (Operand.const (Value.int IntKind.i64 0))), none, false⟩]) .ret))))))
theorem body_patch_Write : Tryd.f6.body = some code_patch_Write := by kernel_rfl
theorem slim_patch_Write : slim ann_patch_Write code_patch_Write = some ac_patch_Write := by kernel_rfl
theorem name_patch_Write : (Tryd.f6.name == "runtime.NumGoroutine") = false := by kernel_rfl
theorem enter_patch_Write {args : List AV} {h : Hp} {Q : AE → Hp → Prop} (H : awp Tryd.prog tab ac_patch_Write (retQ tab [(ResultVar.tmp 2), (ResultVar.tmp 3)] Q) ⟨args ++ List.replicate (51 - args.length) .any, h⟩) : ACalls Tryd.prog 6 args h Q :=
  acalls_of tab_ok mixed Tryd.func6 body_patch_Write name_patch_Write slim_patch_Write rfl Tryd.ntmps6 H
/-- stylus/patch.Write -/
def patch_Write.w (a0_ : ApiPatch) (Q : (ByteArray × Int) → Prop) : Prop :=
  patch_right.w a0_ (fun r1 =>
    if (!r1) = true then
      Q ((ByteArray.mk #[]), 1)
    else
      strconv_Itoa.w a0_.Pages (fun r2 =>
        ((ByteArray.mk #[112, 97, 103, 101, 115, 32]).size + r2.size ≤ 9223372036854775807) ∧
        (((ByteArray.mk #[112, 97, 103, 101, 115, 32]) ++ r2).size + (ByteArray.mk #[10]).size ≤ 9223372036854775807) ∧
        strings_Builder_WriteString_i0.w (((ByteArray.mk #[112, 97, 103, 101, 115, 32]) ++ r2) ++ (ByteArray.mk #[10])) false ([] : List Int) (fun r3 v1 v2 =>
          wloop (σ := (List Int) × Bool × Int) (fun ⟨a1, a2, a3⟩ next1 =>
            if a3 < (a0_.Changes.length : Int) then
              (0 ≤ a3) ∧
              ∃ v3 : ApiChange, a0_.Changes[a3.toNat]? = some v3 ∧
              ∃ r4 : ByteArray, strconv_Itoa.w v3.Page (fun r' => r' = r4) ∧
              ((ByteArray.mk #[112, 97, 103, 101, 32]).size + r4.size ≤ 9223372036854775807) ∧
              (((ByteArray.mk #[112, 97, 103, 101, 32]) ++ r4).size + (ByteArray.mk #[32]).size ≤ 9223372036854775807) ∧
              ∃ r5 : ByteArray, strconv_Itoa.w (v3.Lines.length : Int) (fun r' => r' = r5) ∧
              ((((ByteArray.mk #[112, 97, 103, 101, 32]) ++ r4) ++ (ByteArray.mk #[32])).size + r5.size ≤ 9223372036854775807) ∧
              (((((ByteArray.mk #[112, 97, 103, 101, 32]) ++ r4) ++ (ByteArray.mk #[32])) ++ r5).size + (ByteArray.mk #[10]).size ≤ 9223372036854775807) ∧
              strings_Builder_WriteString_i0.w (((((ByteArray.mk #[112, 97, 103, 101, 32]) ++ r4) ++ (ByteArray.mk #[32])) ++ r5) ++ (ByteArray.mk #[10])) a2 a1 (fun r6 v4 v5 =>
                wloop (σ := (List Int) × Bool × Int) (fun ⟨a4, a5, a6⟩ next2 =>
                  if a6 < (v3.Lines.length : Int) then
                    (0 ≤ a6) ∧
                    ∃ v6 : ByteArray, v3.Lines[a6.toNat]? = some v6 ∧
                    ((ByteArray.mk #[62]).size + v6.size ≤ 9223372036854775807) ∧
                    (((ByteArray.mk #[62]) ++ v6).size + (ByteArray.mk #[10]).size ≤ 9223372036854775807) ∧
                    strings_Builder_WriteString_i0.w (((ByteArray.mk #[62]) ++ v6) ++ (ByteArray.mk #[10])) a5 a4 (fun r7 v7 v8 =>
                      (I64 (a6 + 1)) ∧
                      next2 (v8, v7, a6 + 1))
                  else
                    (I64 (a3 + 1)) ∧
                    next1 (a4, a5, a3 + 1)) (v5, v4, 0))
            else
              ∃ v9 : ByteArray, a1 = strInts v9 ∧ v9.size ≠ 0 ∧ v9.size ≤ 9223372036854775807 ∧
              Q (v9, 0)) (v2, v1, 0))))
theorem patch_Write.ok {a0_ : ApiPatch} {Q : (ByteArray × Int) → Prop} (hm : patch_Write.w a0_ Q) (h0 : Hp) : ACalls Tryd.prog n_patch_Write [(.agg (ApiPatch.enc a0_))] h0 (Back h0 (fun r => .tup [(astr r.1), (aint r.2)]) Q) := by
  refine enter_patch_Write ?_
  unfold patch_Write.w at hm
  have H := AM.Own.nil h0
  simp (maxSteps := 4000000) -implicitDefEqProofs (disch := omega) only [push_cast, Nat.reduceAdd, Nat.reduceLeDiff, Nat.reduceMul, Nat.reduceSub, Nat.reduceLT, Nat.reduceEqDiff, Int.reduceAdd, Int.reduceSub, Int.reduceLE, Int.reduceLT, Int.reduceEq, Int.reduceNe, Int.reduceToNat, Int.reduceNeg, reduceIte, reduceCtorEq, ac_patch_Write]
  refine H.newR (ApiPatch.enc a0_) rfl (fun b1 h1 H => ?_)
  have e0 := H.getP 0 rfl
  simp (maxSteps := 4000000) -implicitDefEqProofs (disch := omega) only [push_cast, Nat.reduceAdd, Nat.reduceLeDiff, Nat.reduceMul, Nat.reduceSub, Nat.reduceLT, Nat.reduceEqDiff, Int.reduceAdd, Int.reduceSub, Int.reduceLE, Int.reduceLT, Int.reduceEq, Int.reduceNe, Int.reduceToNat, Int.reduceNeg, reduceIte, reduceCtorEq, e0]
  refine calls_w (fun h => patch_right.ok hm h) (fun r1 hm => ?_)
  have e0 := H.getP 0 rfl
  simp (maxSteps := 4000000) -implicitDefEqProofs (disch := omega) only [push_cast, Nat.reduceAdd, Nat.reduceLeDiff, Nat.reduceMul, Nat.reduceSub, Nat.reduceLT, Nat.reduceEqDiff, Int.reduceAdd, Int.reduceSub, Int.reduceLE, Int.reduceLT, Int.reduceEq, Int.reduceNe, Int.reduceToNat, Int.reduceNeg, reduceIte, reduceCtorEq, e0]
  rw [fork_bool]
  refine ⟨fun c1 => ?_, fun c1 => ?_⟩
  · replace hm := ifp hm c1
    have e0 := H.getP 0 rfl
    simp (maxSteps := 4000000) -implicitDefEqProofs (disch := omega) only [push_cast, Nat.reduceAdd, Nat.reduceLeDiff, Nat.reduceMul, Nat.reduceSub, Nat.reduceLT, Nat.reduceEqDiff, Int.reduceAdd, Int.reduceSub, Int.reduceLE, Int.reduceLT, Int.reduceEq, Int.reduceNe, Int.reduceToNat, Int.reduceNeg, reduceIte, reduceCtorEq, c1, e0]
    exact retQ_back (.inl rfl) ((ByteArray.mk #[]), 1) _ rfl (Shift.refl _ _) H.sub hm
  · replace hm := ifn hm (by rw [c1]; exact Bool.false_ne_true)
    have e0 := H.getP 0 rfl
    simp (maxSteps := 4000000) -implicitDefEqProofs (disch := omega) only [push_cast, Nat.reduceAdd, Nat.reduceLeDiff, Nat.reduceMul, Nat.reduceSub, Nat.reduceLT, Nat.reduceEqDiff, Int.reduceAdd, Int.reduceSub, Int.reduceLE, Int.reduceLT, Int.reduceEq, Int.reduceNe, Int.reduceToNat, Int.reduceNeg, reduceIte, reduceCtorEq, c1, e0]
    refine H.newR [.val (.pointer none), anil] rfl (fun b2 h2 H => ?_)
    have e0 := H.getP 0 rfl
    have e1 := H.getP 1 rfl
    simp (maxSteps := 4000000) -implicitDefEqProofs (disch := omega) only [push_cast, Nat.reduceAdd, Nat.reduceLeDiff, Nat.reduceMul, Nat.reduceSub, Nat.reduceLT, Nat.reduceEqDiff, Int.reduceAdd, Int.reduceSub, Int.reduceLE, Int.reduceLT, Int.reduceEq, Int.reduceNe, Int.reduceToNat, Int.reduceNeg, reduceIte, reduceCtorEq, c1, e0, e1]
    refine calls_w (fun h => strconv_Itoa.ok hm h) (fun r2 hm => ?_)
    obtain ⟨w1, hm⟩ := hm
    obtain ⟨w2, hm⟩ := hm
    have e0 := H.getP 0 rfl
    have e1 := H.getP 1 rfl
    simp (maxSteps := 4000000) -implicitDefEqProofs (disch := omega) only [push_cast, Nat.reduceAdd, Nat.reduceLeDiff, Nat.reduceMul, Nat.reduceSub, Nat.reduceLT, Nat.reduceEqDiff, Int.reduceAdd, Int.reduceSub, Int.reduceLE, Int.reduceLT, Int.reduceEq, Int.reduceNe, Int.reduceToNat, Int.reduceNeg, reduceIte, reduceCtorEq, c1, eq_true w1, eq_true w2, e0, e1]
    replace H := H.addNil 1 (some (5, 0))
    obtain ⟨h3, HF1, hB1⟩ := H.frame [2, 1] (by decide)
    refine calls_of (strings_Builder_WriteString_i0.ok hm HF1) ?_
    rintro _ h4 ⟨r3, v1, v2, x1, rfl, H', hm⟩
    replace H := hB1 _ _ rfl H'
    have e0 := H.getP 0 rfl
    have e1 := H.getP 1 rfl
    simp (maxSteps := 4000000) -implicitDefEqProofs (disch := omega) only [push_cast, Nat.reduceAdd, Nat.reduceLeDiff, Nat.reduceMul, Nat.reduceSub, Nat.reduceLT, Nat.reduceEqDiff, Int.reduceAdd, Int.reduceSub, Int.reduceLE, Int.reduceLT, Int.reduceEq, Int.reduceNe, Int.reduceToNat, Int.reduceNeg, reduceIte, reduceCtorEq, c1, eq_true w1, eq_true w2, e0, e1]
    obtain ⟨inv1, mu1, hi1, hs1⟩ := hm
    replace H := H.perm [1, 2] (by decide)
    refine awp_loop (σ := ((List Int) × Bool × Int) × AV × Hp) (fun ⟨⟨a1, a2, a3⟩, x2, h5⟩ => ⟨((((List.replicate 51 AV.any).set 4 (.optr b2 2 0 0)).set 19 (.isl 2 (a0_.Changes.map ApiChange.enc))).set 20 (aint (a0_.Changes.length : Int))).set 21 (aint a3), h5⟩) (fun ⟨⟨a1, a2, a3⟩, x2, h5⟩ => inv1 (a1, a2, a3) ∧ AM.Own h0 h5 [⟨(.optr b2 2 0 0), true, 2, [[bself a2 b2 2 0, x2]], some (46, 2)⟩, ⟨x2, false, 1, a1.map encU8, some (5, 0)⟩]) (fun ⟨⟨a1, a2, a3⟩, x2, h5⟩ => mu1 (a1, a2, a3)) ⟨(v2, v1, 0), x1, h4⟩ (Retell.weak (by simp [Weak, push_cast]) (Hp.sub.refl _)) ⟨hi1, H⟩ ?_
    rintro ⟨⟨a1, a2, a3⟩, x2, h5⟩ ⟨hi1, H⟩
    have hm := hs1 _ hi1
    dsimp only at hm H ⊢
    have e0 := H.getP 0 rfl
    simp (maxSteps := 4000000) -implicitDefEqProofs (disch := omega) only [push_cast, Nat.reduceAdd, Nat.reduceLeDiff, Nat.reduceMul, Nat.reduceSub, Nat.reduceLT, Nat.reduceEqDiff, Int.reduceAdd, Int.reduceSub, Int.reduceLE, Int.reduceLT, Int.reduceEq, Int.reduceNe, Int.reduceToNat, Int.reduceNeg, reduceIte, reduceCtorEq, c1, eq_true w1, eq_true w2, e0]
    rw [fork_cond]
    refine ⟨fun c2 => ?_, fun c2 => ?_⟩
    · replace hm := ifp hm c2
      obtain ⟨z1, hm⟩ := hm
      obtain ⟨v3, i1, hm⟩ := hm
      have e0 := H.getP 0 rfl
      simp (maxSteps := 4000000) -implicitDefEqProofs (disch := omega) only [push_cast, Nat.reduceAdd, Nat.reduceLeDiff, Nat.reduceMul, Nat.reduceSub, Nat.reduceLT, Nat.reduceEqDiff, Int.reduceAdd, Int.reduceSub, Int.reduceLE, Int.reduceLT, Int.reduceEq, Int.reduceNe, Int.reduceToNat, Int.reduceNeg, reduceIte, reduceCtorEq, c1, eq_true w1, eq_true w2, eq_true c2, eq_true z1, i1, e0]
      refine H.newR [(aint 0), anil] rfl (fun b3 h6 H => ?_)
      have e0 := H.getP 0 rfl
      have e2 := H.getP 2 rfl
      simp (maxSteps := 4000000) -implicitDefEqProofs (disch := omega) only [push_cast, Nat.reduceAdd, Nat.reduceLeDiff, Nat.reduceMul, Nat.reduceSub, Nat.reduceLT, Nat.reduceEqDiff, Int.reduceAdd, Int.reduceSub, Int.reduceLE, Int.reduceLT, Int.reduceEq, Int.reduceNe, Int.reduceToNat, Int.reduceNeg, reduceIte, reduceCtorEq, c1, eq_true w1, eq_true w2, eq_true c2, eq_true z1, i1, e0, e2]
      refine H.stP 2 (ApiChange.enc v3) rfl rfl rfl rfl (Nat.le_of_ble_eq_true rfl) rfl (fun h7 H => ?_)
      have e0 := H.getP 0 rfl
      have e2 := H.getP 2 rfl
      simp (maxSteps := 4000000) -implicitDefEqProofs (disch := omega) only [push_cast, Nat.reduceAdd, Nat.reduceLeDiff, Nat.reduceMul, Nat.reduceSub, Nat.reduceLT, Nat.reduceEqDiff, Int.reduceAdd, Int.reduceSub, Int.reduceLE, Int.reduceLT, Int.reduceEq, Int.reduceNe, Int.reduceToNat, Int.reduceNeg, reduceIte, reduceCtorEq, c1, eq_true w1, eq_true w2, eq_true c2, eq_true z1, i1, e0, e2]
      obtain ⟨r4, g1, hm⟩ := hm
      refine pures_of _ (pure_of_back (fun h => strconv_Itoa.ok g1 h)) ?_
      obtain ⟨w3, hm⟩ := hm
      obtain ⟨w4, hm⟩ := hm
      have e0 := H.getP 0 rfl
      have e2 := H.getP 2 rfl
      simp (maxSteps := 4000000) -implicitDefEqProofs (disch := omega) only [push_cast, Nat.reduceAdd, Nat.reduceLeDiff, Nat.reduceMul, Nat.reduceSub, Nat.reduceLT, Nat.reduceEqDiff, Int.reduceAdd, Int.reduceSub, Int.reduceLE, Int.reduceLT, Int.reduceEq, Int.reduceNe, Int.reduceToNat, Int.reduceNeg, reduceIte, reduceCtorEq, c1, eq_true w1, eq_true w2, eq_true c2, eq_true z1, i1, eq_true w3, eq_true w4, e0, e2]
      obtain ⟨r5, g2, hm⟩ := hm
      refine pures_of _ (pure_of_back (fun h => strconv_Itoa.ok g2 h)) ?_
      obtain ⟨w5, hm⟩ := hm
      obtain ⟨w6, hm⟩ := hm
      have e0 := H.getP 0 rfl
      have e2 := H.getP 2 rfl
      simp (maxSteps := 4000000) -implicitDefEqProofs (disch := omega) only [push_cast, Nat.reduceAdd, Nat.reduceLeDiff, Nat.reduceMul, Nat.reduceSub, Nat.reduceLT, Nat.reduceEqDiff, Int.reduceAdd, Int.reduceSub, Int.reduceLE, Int.reduceLT, Int.reduceEq, Int.reduceNe, Int.reduceToNat, Int.reduceNeg, reduceIte, reduceCtorEq, c1, eq_true w1, eq_true w2, eq_true c2, eq_true z1, i1, eq_true w3, eq_true w4, eq_true w5, eq_true w6, e0, e2]
      obtain ⟨h8, HF2, hB2⟩ := H.frame [1, 0] (by decide)
      refine calls_of (strings_Builder_WriteString_i0.ok hm HF2) ?_
      rintro _ h9 ⟨r6, v4, v5, x3, rfl, H', hm⟩
      replace H := hB2 _ _ rfl H'
      have e0 := H.getP 0 rfl
      have e2 := H.getP 2 rfl
      simp (maxSteps := 4000000) -implicitDefEqProofs (disch := omega) only [push_cast, Nat.reduceAdd, Nat.reduceLeDiff, Nat.reduceMul, Nat.reduceSub, Nat.reduceLT, Nat.reduceEqDiff, Int.reduceAdd, Int.reduceSub, Int.reduceLE, Int.reduceLT, Int.reduceEq, Int.reduceNe, Int.reduceToNat, Int.reduceNeg, reduceIte, reduceCtorEq, c1, eq_true w1, eq_true w2, eq_true c2, eq_true z1, i1, eq_true w3, eq_true w4, eq_true w5, eq_true w6, e0, e2]
      obtain ⟨inv2, mu2, hi2, hs2⟩ := hm
      replace H := H.perm [0, 1] (by decide)
      refine awp_loop (σ := ((List Int) × Bool × Int) × AV × Hp) (fun ⟨⟨a4, a5, a6⟩, x4, h10⟩ => ⟨(((((((List.replicate 51 AV.any).set 4 (.optr b2 2 0 0)).set 19 (.isl 2 (a0_.Changes.map ApiChange.enc))).set 20 (aint (a0_.Changes.length : Int))).set 21 (aint a3)).set 38 (.isl 1 (v3.Lines.map AM.encStr))).set 39 (aint (v3.Lines.length : Int))).set 40 (aint a6), h10⟩) (fun ⟨⟨a4, a5, a6⟩, x4, h10⟩ => inv2 (a4, a5, a6) ∧ AM.Own h0 h10 [⟨(.optr b2 2 0 0), true, 2, [[bself a5 b2 2 0, x4]], some (46, 2)⟩, ⟨x4, false, 1, a4.map encU8, some (5, 0)⟩]) (fun ⟨⟨a4, a5, a6⟩, x4, h10⟩ => mu2 (a4, a5, a6)) ⟨(v5, v4, 0), x3, h9⟩ (Retell.weak (by simp [Weak, push_cast]) (Hp.sub.refl _)) ⟨hi2, H⟩ ?_
      rintro ⟨⟨a4, a5, a6⟩, x4, h10⟩ ⟨hi2, H⟩
      have hm := hs2 _ hi2
      dsimp only at hm H ⊢
      have e0 := H.getP 0 rfl
      simp (maxSteps := 4000000) -implicitDefEqProofs (disch := omega) only [push_cast, Nat.reduceAdd, Nat.reduceLeDiff, Nat.reduceMul, Nat.reduceSub, Nat.reduceLT, Nat.reduceEqDiff, Int.reduceAdd, Int.reduceSub, Int.reduceLE, Int.reduceLT, Int.reduceEq, Int.reduceNe, Int.reduceToNat, Int.reduceNeg, reduceIte, reduceCtorEq, c1, eq_true w1, eq_true w2, eq_true c2, eq_true z1, i1, eq_true w3, eq_true w4, eq_true w5, eq_true w6, e0]
      rw [fork_cond]
      refine ⟨fun c3 => ?_, fun c3 => ?_⟩
      · replace hm := ifp hm c3
        obtain ⟨z2, hm⟩ := hm
        obtain ⟨v6, i2, hm⟩ := hm
        obtain ⟨w7, hm⟩ := hm
        obtain ⟨w8, hm⟩ := hm
        have e0 := H.getP 0 rfl
        simp (maxSteps := 4000000) -implicitDefEqProofs (disch := omega) only [push_cast, Nat.reduceAdd, Nat.reduceLeDiff, Nat.reduceMul, Nat.reduceSub, Nat.reduceLT, Nat.reduceEqDiff, Int.reduceAdd, Int.reduceSub, Int.reduceLE, Int.reduceLT, Int.reduceEq, Int.reduceNe, Int.reduceToNat, Int.reduceNeg, reduceIte, reduceCtorEq, c1, eq_true w1, eq_true w2, eq_true c2, eq_true z1, i1, eq_true w3, eq_true w4, eq_true w5, eq_true w6, eq_true c3, eq_true z2, i2, eq_true w7, eq_true w8, e0]
        obtain ⟨h11, HF3, hB3⟩ := H.frame [1, 0] (by decide)
        refine calls_of (strings_Builder_WriteString_i0.ok hm HF3) ?_
        rintro _ h12 ⟨r7, v7, v8, x5, rfl, H', hm⟩
        replace H := hB3 _ _ rfl H'
        obtain ⟨w9, hm⟩ := hm
        have e0 := H.getP 0 rfl
        simp (maxSteps := 4000000) -implicitDefEqProofs (disch := omega) only [push_cast, Nat.reduceAdd, Nat.reduceLeDiff, Nat.reduceMul, Nat.reduceSub, Nat.reduceLT, Nat.reduceEqDiff, Int.reduceAdd, Int.reduceSub, Int.reduceLE, Int.reduceLT, Int.reduceEq, Int.reduceNe, Int.reduceToNat, Int.reduceNeg, reduceIte, reduceCtorEq, c1, eq_true w1, eq_true w2, eq_true c2, eq_true z1, i1, eq_true w3, eq_true w4, eq_true w5, eq_true w6, eq_true c3, eq_true z2, i2, eq_true w7, eq_true w8, wrap_i64 _ w9, e0]
        replace H := H.perm [0, 1] (by decide)
        exact ⟨⟨(v8, v7, a6 + 1), x5, h12⟩, hm.2, ⟨hm.1, H⟩, Retell.weak (by simp [Weak, push_cast]) (Hp.sub.refl _)⟩
      · replace hm := ifn hm c3
        obtain ⟨w10, hm⟩ := hm
        have e0 := H.getP 0 rfl
        simp (maxSteps := 4000000) -implicitDefEqProofs (disch := omega) only [push_cast, Nat.reduceAdd, Nat.reduceLeDiff, Nat.reduceMul, Nat.reduceSub, Nat.reduceLT, Nat.reduceEqDiff, Int.reduceAdd, Int.reduceSub, Int.reduceLE, Int.reduceLT, Int.reduceEq, Int.reduceNe, Int.reduceToNat, Int.reduceNeg, reduceIte, reduceCtorEq, c1, eq_true w1, eq_true w2, eq_true c2, eq_true z1, i1, eq_true w3, eq_true w4, eq_true w5, eq_true w6, eq_false c3, wrap_i64 _ w10, e0]
        replace H := H.perm [0, 1] (by decide)
        exact ⟨⟨(a4, a5, a3 + 1), x4, h10⟩, hm.2, ⟨hm.1, H⟩, Retell.weak (by simp [Weak, push_cast]) (Hp.sub.refl _)⟩
    · replace hm := ifn hm c2
      have e0 := H.getP 0 rfl
      simp (maxSteps := 4000000) -implicitDefEqProofs (disch := omega) only [push_cast, Nat.reduceAdd, Nat.reduceLeDiff, Nat.reduceMul, Nat.reduceSub, Nat.reduceLT, Nat.reduceEqDiff, Int.reduceAdd, Int.reduceSub, Int.reduceLE, Int.reduceLT, Int.reduceEq, Int.reduceNe, Int.reduceToNat, Int.reduceNeg, reduceIte, reduceCtorEq, c1, eq_true w1, eq_true w2, eq_false c2, e0]
      obtain ⟨v9, w11, w12, w13, hm⟩ := hm
      replace H := H.eq (its' := [⟨(.optr b2 2 0 0), true, 2, [[bself a2 b2 2 0, x2]], some (46, 2)⟩, ⟨x2, false, 1, (strInts v9).map encU8, some (5, 0)⟩]) (by rw [w11])
      refine calls_of (bldString_gen H 0 1 v9 rfl rfl rfl w12 w13) ?_
      rintro _ h13 ⟨rfl, H'⟩
      replace H := H'
      have e0 := H.getP 0 rfl
      simp (maxSteps := 4000000) -implicitDefEqProofs (disch := omega) only [push_cast, Nat.reduceAdd, Nat.reduceLeDiff, Nat.reduceMul, Nat.reduceSub, Nat.reduceLT, Nat.reduceEqDiff, Int.reduceAdd, Int.reduceSub, Int.reduceLE, Int.reduceLT, Int.reduceEq, Int.reduceNe, Int.reduceToNat, Int.reduceNeg, reduceIte, reduceCtorEq, c1, eq_true w1, eq_true w2, eq_false c2, e0]
      exact retQ_back (.inl rfl) (v9, 0) _ rfl (Shift.refl _ _) H.sub hm
/-! (*stylus/patch.book).page -/
abbrev n_patch_book_page : Nat := 22
noncomputable def code_patch_book_page : Code := match Tryd.f22.body with | some c => c | none => .skip
def ann_patch_book_page : Nat → Ann
  | 3 => { pure := [13], plan := (.op 0 (.op 1 (.op 2 (.op 3 (.op 4 (.op 5 (.op 6 (.op 7 (.op 8 (.op 9 (.op 10 (.op 11 (.op 12 (.op 13 (.op 14 (.op 15 (.op 16 (.op 17 (.op 18 .done))))))))))))))))))), ghost := false, post := false }
  | 8 => { pure := [9], plan := (.op 0 (.op 1 (.op 2 (.op 3 (.op 4 (.op 5 (.op 6 (.op 7 (.op 8 (.op 9 (.op 10 (.op 11 (.op 12 (.op 13 (.op 14 .done))))))))))))))), ghost := false, post := false }
  | _ => {}
noncomputable def ac_patch_book_page_c1 : AC :=
  (.seq (.reg [⟨some 11, (Op.move (Operand.tmp 0)), none, false⟩, ⟨some 12, (Op.nilCheck (Operand.tmp 11)), none, false⟩, ⟨some 13, (Op.fieldAddr 63 (Operand.tmp 12) 0), none, false⟩, ⟨some 14, (Op.fieldAddr 24 (Operand.tmp 13) 1), none, false⟩, ⟨some 15, (Op.load 22 (Operand.tmp 14)), none, false⟩, ⟨some 16, (Op.call (Call.mk (Callee.builtin Builtin.len) #[(Operand.tmp 15)] #[22])), none, false⟩, ⟨some 17, (Op.binOp BinOp.gtr 3 (Operand.tmp 16) (Operand.const (Value.int IntKind.i64 0)) 3), none, false⟩, ⟨some 18, (Op.move (Operand.tmp 17)), none, false⟩, ⟨some 19, (Op.move (Operand.tmp 0)), (some (some 18, true)), false⟩, ⟨some 20, (Op.nilCheck (Operand.tmp 19)), (some (some 18, true)), false⟩, ⟨some 21, (Op.fieldAddr 63 (Operand.tmp 20) 0), (some (some 18, true)), false⟩, ⟨some 22, (Op.fieldAddr 24 (Operand.tmp 21) 1), (some (some 18, true)), false⟩, ⟨some 23, (Op.load 22 (Operand.tmp 22)), (some (some 18, true)), false⟩, ⟨some 24, (Op.indexAddr 22 (Operand.tmp 23) (Operand.const (Value.int IntKind.i64 0))), (some (some 18, true)), false⟩, ⟨some 25, (Op.fieldAddr 37 (Operand.tmp 24) 0), (some (some 18, true)), false⟩, ⟨some 26, (Op.load 3 (Operand.tmp 25)), (some (some 18, true)), false⟩, ⟨some 27, (Op.move (Operand.tmp 5)), (some (some 18, true)), false⟩, ⟨some 28, (Op.binOp BinOp.add 3 (Operand.tmp 27) (Operand.const (Value.int IntKind.i64 1)) 3), (some (some 18, true)), false⟩, ⟨some 29, (Op.binOp BinOp.eql 3 (Operand.tmp 26) (Operand.tmp 28) 3), (some (some 18, true)), false⟩, ⟨some 30, (Op.pick (Operand.tmp 18) (Operand.tmp 29) (Operand.const (Value.bool false))), none, false⟩]) (.cond (Operand.tmp 30) (.seq (.draw [⟨some 31, (Op.move (Operand.tmp 0)), none, false⟩, ⟨some 32, (Op.move (Operand.tmp 0)), none, false⟩, ⟨some 33, (Op.nilCheck (Operand.tmp 32)), none, false⟩, ⟨some 34, (Op.fieldAddr 63 (Operand.tmp 33) 1), none, false⟩, ⟨some 35, (Op.load 38 (Operand.tmp 34)), none, false⟩, ⟨some 36, (Op.move (Operand.tmp 0)), none, false⟩, ⟨some 37, (Op.nilCheck (Operand.tmp 36)), none, false⟩, ⟨some 38, (Op.fieldAddr 63 (Operand.tmp 37) 0), none, false⟩, ⟨some 39, (Op.fieldAddr 24 (Operand.tmp 38) 1), none, false⟩, ⟨some 40, (Op.load 22 (Operand.tmp 39)), none, false⟩, ⟨some 41, (Op.indexAddr 22 (Operand.tmp 40) (Operand.const (Value.int IntKind.i64 0))), none, false⟩, ⟨some 42, (Op.fieldAddr 37 (Operand.tmp 41) 1), none, false⟩, ⟨some 43, (Op.load 35 (Operand.tmp 42)), none, false⟩, ⟨some 44, (Op.call (Call.mk (Callee.value (Operand.func 21)) #[(Operand.tmp 43)] #[35])), none, true⟩, ⟨some 45, (Op.buildSlice 38 1 #[(0, (Operand.tmp 44))]), none, false⟩, ⟨some 46, (Op.call (Call.mk (Callee.builtin Builtin.append) #[(Operand.tmp 35), (Operand.tmp 45)] #[38, 38])), none, false⟩, ⟨some 47, (Op.nilCheck (Operand.tmp 31)), none, false⟩, ⟨some 48, (Op.fieldAddr 63 (Operand.tmp 47) 1), none, false⟩, ⟨none, (Op.store 38 (Operand.tmp 48) (Operand.tmp 46)), none, false⟩] (.op 0 (.op 1 (.op 2 (.op 3 (.op 4 (.op 5 (.op 6 (.op 7 (.op 8 (.op 9 (.op 10 (.op 11 (.op 12 (.op 13 (.op 14 (.op 15 (.op 16 (.op 17 (.op 18 .done)))))))))))))))))))) (.seq (.reg [⟨some 49, (Op.move (Operand.tmp 0)), none, false⟩, ⟨some 50, (Op.move (Operand.tmp 0)), none, false⟩, ⟨some 51, (Op.nilCheck (Operand.tmp 50)), none, false⟩, ⟨some 52, (Op.fieldAddr 63 (Operand.tmp 51) 0), none, false⟩, ⟨some 53, (Op.fieldAddr 24 (Operand.tmp 52) 1), none, false⟩, ⟨some 54, (Op.load 22 (Operand.tmp 53)), none, false⟩, ⟨some 55, (Op.slice 22 (Operand.tmp 54) (some (Operand.const (Value.int IntKind.i64 1))) none none), none, false⟩, ⟨some 56, (Op.nilCheck (Operand.tmp 49)), none, false⟩, ⟨some 57, (Op.fieldAddr 63 (Operand.tmp 56) 0), none, false⟩, ⟨some 58, (Op.fieldAddr 24 (Operand.tmp 57) 1), none, false⟩, ⟨none, (Op.store 22 (Operand.tmp 58) (Operand.tmp 55)), none, false⟩]) (.seq (.reg [⟨some 4, (Op.assign (Operand.const (Value.bool true))), none, false⟩]) .ret))) .skip))
noncomputable def ac_patch_book_page : AC :=
  (.seq (.reg [⟨some 4, (Op.assign (Operand.const (Value.bool false))), none, false⟩]) (.seq (.reg [⟨some 6, (Op.move (Operand.tmp 0)), none, false⟩, ⟨some 7, (Op.nilCheck (Operand.tmp 6)), none, false⟩, ⟨some 8, (Op.fieldAddr 63 (Operand.tmp 7) 1), none, false⟩, ⟨some 9, (Op.load 38 (Operand.tmp 8)), none, false⟩, ⟨some 10, (Op.call (Call.mk (Callee.builtin Builtin.len) #[(Operand.tmp 9)] #[38])), none, false⟩, ⟨some 5, (Op.assign (Operand.tmp 10)), none, false⟩]) (.seq ac_patch_book_page_c1 (.seq (.seq (.reg [⟨some 59, (Op.move (Operand.tmp 5)), none, false⟩, ⟨some 60, (Op.move (Operand.tmp 1)), none, false⟩, ⟨some 61, (Op.call (Call.mk (Callee.builtin Builtin.len) #[(Operand.tmp 60)] #[38])), none, false⟩, ⟨some 62, (Op.binOp BinOp.geq 3 (Operand.tmp 59) (Operand.tmp 61) 3), none, false⟩]) (.cond (Operand.tmp 62) (.seq (.reg [⟨some 4, (Op.assign (Operand.const (Value.bool false))), none, false⟩]) .ret) .skip)) (.seq (.draw [⟨some 63, (Op.move (Operand.tmp 0)), none, false⟩, ⟨some 64, (Op.move (Operand.tmp 0)), none, false⟩, ⟨some 65, (Op.nilCheck (Operand.tmp 64)), none, false⟩, ⟨some 66, (Op.fieldAddr 63 (Operand.tmp 65) 1), none, false⟩, ⟨some 67, (Op.load 38 (Operand.tmp 66)), none, false⟩, ⟨some 68, (Op.move (Operand.tmp 1)), none, false⟩, ⟨some 69, (Op.move (Operand.tmp 5)), none, false⟩, ⟨some 70, (Op.indexAddr 38 (Operand.tmp 68) (Operand.tmp 69)), none, false⟩, ⟨some 71, (Op.load 35 (Operand.tmp 70)), none, false⟩, ⟨some 72, (Op.call (Call.mk (Callee.value (Operand.func 21)) #[(Operand.tmp 71)] #[35])), none, true⟩, ⟨some 73, (Op.buildSlice 38 1 #[(0, (Operand.tmp 72))]), none, false⟩, ⟨some 74, (Op.call (Call.mk (Callee.builtin Builtin.append) #[(Operand.tmp 67), (Operand.tmp 73)] #[38, 38])), none, false⟩, ⟨some 75, (Op.nilCheck (Operand.tmp 63)), none, false⟩, ⟨some 76, (Op.fieldAddr 63 (Operand.tmp 75) 1), none, false⟩, ⟨none, (Op.store 38 (Operand.tmp 76) (Operand.tmp 74)), none, false⟩] (.op 0 (.op 1 (.op 2 (.op 3 (.op 4 (.op 5 (.op 6 (.op 7 (.op 8 (.op 9 (.op 10 (.op 11 (.op 12 (.op 13 (.op 14 .done)))))))))))))))) (.seq (.reg [⟨some 4, (Op.assign (Operand.const (Value.bool true))), none, false⟩]) .ret))))))
theorem body_patch_book_page : Tryd.f22.body = some code_patch_book_page := by kernel_rfl
theorem slim_patch_book_page : slim ann_patch_book_page code_patch_book_page = some ac_patch_book_page := by kernel_rfl
theorem name_patch_book_page : (Tryd.f22.name == "runtime.NumGoroutine") = false := by kernel_rfl
theorem enter_patch_book_page {args : List AV} {h : Hp} {Q : AE → Hp → Prop} (H : awp Tryd.prog tab ac_patch_book_page (retQ tab [(ResultVar.tmp 4)] Q) ⟨args ++ List.replicate (77 - args.length) .any, h⟩) : ACalls Tryd.prog 22 args h Q :=
  acalls_of tab_ok mixed Tryd.func22 body_patch_book_page name_patch_book_page slim_patch_book_page rfl Tryd.ntmps22 H
/-- (*stylus/patch.book).page, with what it is handed -/
def patch_book_page_i0.w (a0_ : List (List ByteArray)) (c0_0_ : ApiPatch) (c0_1_ : List (List ByteArray)) (Q : Bool → ApiPatch → (List (List ByteArray)) → Prop) : Prop :=
  wcut (α := Bool) (fun k1 =>
    if 0 < (c0_0_.Changes.length : Int) then
      ∃ v1 : ApiChange, c0_0_.Changes[0]? = some v1 ∧
      (I64 ((c0_1_.length : Int) + 1)) ∧
      k1 (decide (v1.Page = (c0_1_.length : Int) + 1))
    else
      k1 false) (fun a1 =>
    if a1 = true then
      ∃ v2 : ApiChange, c0_0_.Changes[0]? = some v2 ∧
      ∃ r1 : List ByteArray, slices_Clone_string_string.w v2.Lines (fun r' => r' = r1) ∧
      ((c0_1_.length + ([r1] : List (List ByteArray)).length) * 24 ≤ 140737488355328) ∧
      (1 ≤ c0_0_.Changes.length) ∧
      Q true (⟨c0_0_.Pages, c0_0_.Changes.drop 1⟩ : ApiPatch) (c0_1_ ++ ([r1] : List (List ByteArray)))
    else
      if (a0_.length : Int) ≤ (c0_1_.length : Int) then
        Q false c0_0_ c0_1_
      else
        ∃ v3 : List ByteArray, a0_[c0_1_.length]? = some v3 ∧
        ∃ r2 : List ByteArray, slices_Clone_string_string.w v3 (fun r' => r' = r2) ∧
        ((c0_1_.length + ([r2] : List (List ByteArray)).length) * 24 ≤ 140737488355328) ∧
        Q true c0_0_ (c0_1_ ++ ([r2] : List (List ByteArray))))
theorem patch_book_page_i0.ok {a0_ : List (List ByteArray)} {c0_0_ : ApiPatch} {c0_1_ : List (List ByteArray)} {Q : Bool → ApiPatch → (List (List ByteArray)) → Prop} (hm : patch_book_page_i0.w a0_ c0_0_ c0_1_ Q) {h0 h : Hp} {b0_ : Nat} {x0_1_ : AV} (H : AM.Own h0 h [⟨x0_1_, false, 1, c0_1_.map (encSl 1 AM.encStr), some (35, 0)⟩, ⟨(.optr b0_ 3 0 0), true, 3, [((ApiPatch.enc c0_0_) ++ [x0_1_])], some (63, 3)⟩]) : ACalls Tryd.prog n_patch_book_page [(.optr b0_ 3 0 0), (.isl 1 (a0_.map (encSl 1 AM.encStr)))] h (fun e h' => ∃ (r : Bool) (c0_0' : ApiPatch) (c0_1' : List (List ByteArray)) (x0_1_' : AV), e = .ret ((fun r => (abool r)) r) ∧ AM.Own h0 h' [⟨x0_1_', false, 1, c0_1'.map (encSl 1 AM.encStr), some (35, 0)⟩, ⟨(.optr b0_ 3 0 0), true, 3, [((ApiPatch.enc c0_0') ++ [x0_1_'])], some (63, 3)⟩] ∧ Q r c0_0' c0_1') := by
  refine enter_patch_book_page ?_
  unfold patch_book_page_i0.w at hm
  have e1 := H.getP 1 rfl
  simp (maxSteps := 4000000) -implicitDefEqProofs (disch := omega) only [push_cast, Nat.reduceAdd, Nat.reduceLeDiff, Nat.reduceMul, Nat.reduceSub, Nat.reduceLT, Nat.reduceEqDiff, Int.reduceAdd, Int.reduceSub, Int.reduceLE, Int.reduceLT, Int.reduceEq, Int.reduceNe, Int.reduceToNat, Int.reduceNeg, reduceIte, reduceCtorEq, ac_patch_book_page, H.lenE 0 rfl tab_38, e1]
  obtain ⟨k1, hm, hk1⟩ := wcut_elim hm
  refine awp_cut (fun s' => ∃ (a1 : Bool) (h1 : Hp), Like s'.tm (((((List.replicate 77 none).set 0 (some (.optr b0_ 3 0 0))).set 1 (some (.isl 1 (a0_.map (encSl 1 AM.encStr))))).set 5 (some (aint (c0_1_.length : Int)))).set 30 (some (abool a1))) ∧ s'.h = h1 ∧ AM.Own h0 h1 [⟨x0_1_, false, 1, c0_1_.map (encSl 1 AM.encStr), some (35, 0)⟩, ⟨(.optr b0_ 3 0 0), true, 3, [((ApiPatch.enc c0_0_) ++ [x0_1_])], some (63, 3)⟩] ∧ k1 a1) ?_ ?_
  · have e1 := H.getP 1 rfl
    simp (maxSteps := 4000000) -implicitDefEqProofs (disch := omega) only [push_cast, Nat.reduceAdd, Nat.reduceLeDiff, Nat.reduceMul, Nat.reduceSub, Nat.reduceLT, Nat.reduceEqDiff, Int.reduceAdd, Int.reduceSub, Int.reduceLE, Int.reduceLT, Int.reduceEq, Int.reduceNe, Int.reduceToNat, Int.reduceNeg, reduceIte, reduceCtorEq, e1]
    rw [gfork_cond]
    refine ⟨fun c1 => ?_, fun c1 => ?_⟩
    · replace hm := ifp hm c1
      obtain ⟨v1, i1, hm⟩ := hm
      obtain ⟨w1, hm⟩ := hm
      have e1 := H.getP 1 rfl
      simp (maxSteps := 4000000) -implicitDefEqProofs (disch := omega) only [push_cast, Nat.reduceAdd, Nat.reduceLeDiff, Nat.reduceMul, Nat.reduceSub, Nat.reduceLT, Nat.reduceEqDiff, Int.reduceAdd, Int.reduceSub, Int.reduceLE, Int.reduceLT, Int.reduceEq, Int.reduceNe, Int.reduceToNat, Int.reduceNeg, reduceIte, reduceCtorEq, eq_true c1, i1, wrap_i64 _ w1, e1]
      replace H := H.perm [0, 1] (by decide)
      exact ⟨decide (v1.Page = (c0_1_.length : Int) + 1), h, by simp [Like, push_cast], rfl, H, hm⟩
    · replace hm := ifn hm c1
      have e1 := H.getP 1 rfl
      simp (maxSteps := 4000000) -implicitDefEqProofs (disch := omega) only [push_cast, Nat.reduceAdd, Nat.reduceLeDiff, Nat.reduceMul, Nat.reduceSub, Nat.reduceLT, Nat.reduceEqDiff, Int.reduceAdd, Int.reduceSub, Int.reduceLE, Int.reduceLT, Int.reduceEq, Int.reduceNe, Int.reduceToNat, Int.reduceNeg, reduceIte, reduceCtorEq, eq_false c1, e1]
      replace H := H.perm [0, 1] (by decide)
      exact ⟨false, h, by simp [Like, push_cast], rfl, H, hm⟩
  · rintro ⟨tm, h1⟩ ⟨a1, _, hL, rfl, H, hm⟩
    dsimp only at hL H
    obtain ⟨D, rfl⟩ := hL.fill 0
    replace hm := hk1 _ hm
    have e1 := H.getP 1 rfl
    simp (maxSteps := 4000000) -implicitDefEqProofs (disch := omega) only [push_cast, Nat.reduceAdd, Nat.reduceLeDiff, Nat.reduceMul, Nat.reduceSub, Nat.reduceLT, Nat.reduceEqDiff, Int.reduceAdd, Int.reduceSub, Int.reduceLE, Int.reduceLT, Int.reduceEq, Int.reduceNe, Int.reduceToNat, Int.reduceNeg, reduceIte, reduceCtorEq, e1]
    rw [fork_bool]
    refine ⟨fun c2 => ?_, fun c2 => ?_⟩
    · replace hm := ifp hm c2
      obtain ⟨v2, i2, hm⟩ := hm
      have e1 := H.getP 1 rfl
      simp (maxSteps := 4000000) -implicitDefEqProofs (disch := omega) only [push_cast, Nat.reduceAdd, Nat.reduceLeDiff, Nat.reduceMul, Nat.reduceSub, Nat.reduceLT, Nat.reduceEqDiff, Int.reduceAdd, Int.reduceSub, Int.reduceLE, Int.reduceLT, Int.reduceEq, Int.reduceNe, Int.reduceToNat, Int.reduceNeg, reduceIte, reduceCtorEq, c2, i2, e1]
      obtain ⟨r1, g1, hm⟩ := hm
      refine pures_of _ (pure_of_back (fun h => slices_Clone_string_string.ok g1 h)) ?_
      have e1 := H.getP 1 rfl
      simp (maxSteps := 4000000) -implicitDefEqProofs (disch := omega) only [push_cast, Nat.reduceAdd, Nat.reduceLeDiff, Nat.reduceMul, Nat.reduceSub, Nat.reduceLT, Nat.reduceEqDiff, Int.reduceAdd, Int.reduceSub, Int.reduceLE, Int.reduceLT, Int.reduceEq, Int.reduceNe, Int.reduceToNat, Int.reduceNeg, reduceIte, reduceCtorEq, c2, i2, e1]
      refine H.newL (E := (encSl 1 AM.encStr)) ([r1] : List (List ByteArray)) rfl rfl (fun b1 h2 H => ?_)
      have e1 := H.getP 1 rfl
      simp (maxSteps := 4000000) -implicitDefEqProofs (disch := omega) only [push_cast, Nat.reduceAdd, Nat.reduceLeDiff, Nat.reduceMul, Nat.reduceSub, Nat.reduceLT, Nat.reduceEqDiff, Int.reduceAdd, Int.reduceSub, Int.reduceLE, Int.reduceLT, Int.reduceEq, Int.reduceNe, Int.reduceToNat, Int.reduceNeg, reduceIte, reduceCtorEq, c2, i2, H.src (e := 35) 2 rfl, e1]
      obtain ⟨w2, hm⟩ := hm
      refine H.appL (E := (encSl 1 AM.encStr)) 0 ([r1] : List (List ByteArray)) rfl rfl rfl (by decide) (by decide) w2 (fun x1 h3 H => ?_)
      have e1 := H.getP 1 rfl
      simp (maxSteps := 4000000) -implicitDefEqProofs (disch := omega) only [push_cast, Nat.reduceAdd, Nat.reduceLeDiff, Nat.reduceMul, Nat.reduceSub, Nat.reduceLT, Nat.reduceEqDiff, Int.reduceAdd, Int.reduceSub, Int.reduceLE, Int.reduceLT, Int.reduceEq, Int.reduceNe, Int.reduceToNat, Int.reduceNeg, reduceIte, reduceCtorEq, c2, i2, e1]
      refine H.stP 1 ((ApiPatch.enc c0_0_) ++ [x1]) rfl (H.ok 0 rfl).1 (H.ok 0 rfl).2 rfl (Nat.le_of_ble_eq_true rfl) rfl (fun h4 H => ?_)
      obtain ⟨w3, hm⟩ := hm
      have e1 := H.getP 1 rfl
      simp (maxSteps := 4000000) -implicitDefEqProofs (disch := omega) only [push_cast, Nat.reduceAdd, Nat.reduceLeDiff, Nat.reduceMul, Nat.reduceSub, Nat.reduceLT, Nat.reduceEqDiff, Int.reduceAdd, Int.reduceSub, Int.reduceLE, Int.reduceLT, Int.reduceEq, Int.reduceNe, Int.reduceToNat, Int.reduceNeg, reduceIte, reduceCtorEq, c2, i2, eq_true w3, e1]
      refine H.stP 1 [(aint c0_0_.Pages), (.isl 2 ((c0_0_.Changes.drop 1).map ApiChange.enc)), x1] rfl rfl rfl rfl (Nat.le_of_ble_eq_true rfl) rfl (fun h5 H => ?_)
      have e1 := H.getP 1 rfl
      simp (maxSteps := 4000000) -implicitDefEqProofs (disch := omega) only [push_cast, Nat.reduceAdd, Nat.reduceLeDiff, Nat.reduceMul, Nat.reduceSub, Nat.reduceLT, Nat.reduceEqDiff, Int.reduceAdd, Int.reduceSub, Int.reduceLE, Int.reduceLT, Int.reduceEq, Int.reduceNe, Int.reduceToNat, Int.reduceNeg, reduceIte, reduceCtorEq, c2, i2, eq_true w3, e1]
      have e1 := H.getP 1 rfl
      replace H := H.perm [0, 1] (by decide)
      exact retQ_o (.inl rfl) (x := (abool true)) rfl (Shift.refl _ _) ⟨true, (⟨c0_0_.Pages, c0_0_.Changes.drop 1⟩ : ApiPatch), c0_1_ ++ ([r1] : List (List ByteArray)), x1, rfl, H, hm⟩
    · replace hm := ifn hm (by rw [c2]; exact Bool.false_ne_true)
      have e1 := H.getP 1 rfl
      simp (maxSteps := 4000000) -implicitDefEqProofs (disch := omega) only [push_cast, Nat.reduceAdd, Nat.reduceLeDiff, Nat.reduceMul, Nat.reduceSub, Nat.reduceLT, Nat.reduceEqDiff, Int.reduceAdd, Int.reduceSub, Int.reduceLE, Int.reduceLT, Int.reduceEq, Int.reduceNe, Int.reduceToNat, Int.reduceNeg, reduceIte, reduceCtorEq, c2, e1]
      rw [fork_cond]
      refine ⟨fun c3 => ?_, fun c3 => ?_⟩
      · replace hm := ifp hm c3
        have e1 := H.getP 1 rfl
        simp (maxSteps := 4000000) -implicitDefEqProofs (disch := omega) only [push_cast, Nat.reduceAdd, Nat.reduceLeDiff, Nat.reduceMul, Nat.reduceSub, Nat.reduceLT, Nat.reduceEqDiff, Int.reduceAdd, Int.reduceSub, Int.reduceLE, Int.reduceLT, Int.reduceEq, Int.reduceNe, Int.reduceToNat, Int.reduceNeg, reduceIte, reduceCtorEq, c2, eq_true c3, e1]
        have e1 := H.getP 1 rfl
        replace H := H.perm [0, 1] (by decide)
        exact retQ_o (.inl rfl) (x := (abool false)) rfl (Shift.refl _ _) ⟨false, c0_0_, c0_1_, x0_1_, rfl, H, hm⟩
      · replace hm := ifn hm c3
        obtain ⟨v3, i3, hm⟩ := hm
        have e1 := H.getP 1 rfl
        simp (maxSteps := 4000000) -implicitDefEqProofs (disch := omega) only [push_cast, Nat.reduceAdd, Nat.reduceLeDiff, Nat.reduceMul, Nat.reduceSub, Nat.reduceLT, Nat.reduceEqDiff, Int.reduceAdd, Int.reduceSub, Int.reduceLE, Int.reduceLT, Int.reduceEq, Int.reduceNe, Int.reduceToNat, Int.reduceNeg, reduceIte, reduceCtorEq, c2, eq_false c3, i3, e1]
        obtain ⟨r2, g2, hm⟩ := hm
        refine pures_of _ (pure_of_back (fun h => slices_Clone_string_string.ok g2 h)) ?_
        have e1 := H.getP 1 rfl
        simp (maxSteps := 4000000) -implicitDefEqProofs (disch := omega) only [push_cast, Nat.reduceAdd, Nat.reduceLeDiff, Nat.reduceMul, Nat.reduceSub, Nat.reduceLT, Nat.reduceEqDiff, Int.reduceAdd, Int.reduceSub, Int.reduceLE, Int.reduceLT, Int.reduceEq, Int.reduceNe, Int.reduceToNat, Int.reduceNeg, reduceIte, reduceCtorEq, c2, eq_false c3, i3, e1]
        refine H.newL (E := (encSl 1 AM.encStr)) ([r2] : List (List ByteArray)) rfl rfl (fun b2 h6 H => ?_)
        have e1 := H.getP 1 rfl
        simp (maxSteps := 4000000) -implicitDefEqProofs (disch := omega) only [push_cast, Nat.reduceAdd, Nat.reduceLeDiff, Nat.reduceMul, Nat.reduceSub, Nat.reduceLT, Nat.reduceEqDiff, Int.reduceAdd, Int.reduceSub, Int.reduceLE, Int.reduceLT, Int.reduceEq, Int.reduceNe, Int.reduceToNat, Int.reduceNeg, reduceIte, reduceCtorEq, c2, eq_false c3, i3, H.src (e := 35) 2 rfl, e1]
        obtain ⟨w4, hm⟩ := hm
        refine H.appL (E := (encSl 1 AM.encStr)) 0 ([r2] : List (List ByteArray)) rfl rfl rfl (by decide) (by decide) w4 (fun x2 h7 H => ?_)
        have e1 := H.getP 1 rfl
        simp (maxSteps := 4000000) -implicitDefEqProofs (disch := omega) only [push_cast, Nat.reduceAdd, Nat.reduceLeDiff, Nat.reduceMul, Nat.reduceSub, Nat.reduceLT, Nat.reduceEqDiff, Int.reduceAdd, Int.reduceSub, Int.reduceLE, Int.reduceLT, Int.reduceEq, Int.reduceNe, Int.reduceToNat, Int.reduceNeg, reduceIte, reduceCtorEq, c2, eq_false c3, i3, e1]
        refine H.stP 1 ((ApiPatch.enc c0_0_) ++ [x2]) rfl (H.ok 0 rfl).1 (H.ok 0 rfl).2 rfl (Nat.le_of_ble_eq_true rfl) rfl (fun h8 H => ?_)
        have e1 := H.getP 1 rfl
        simp (maxSteps := 4000000) -implicitDefEqProofs (disch := omega) only [push_cast, Nat.reduceAdd, Nat.reduceLeDiff, Nat.reduceMul, Nat.reduceSub, Nat.reduceLT, Nat.reduceEqDiff, Int.reduceAdd, Int.reduceSub, Int.reduceLE, Int.reduceLT, Int.reduceEq, Int.reduceNe, Int.reduceToNat, Int.reduceNeg, reduceIte, reduceCtorEq, c2, eq_false c3, i3, e1]
        have e1 := H.getP 1 rfl
        replace H := H.perm [0, 1] (by decide)
        exact retQ_o (.inl rfl) (x := (abool true)) rfl (Shift.refl _ _) ⟨true, c0_0_, c0_1_ ++ ([r2] : List (List ByteArray)), x2, rfl, H, hm⟩
/-! stylus/patch.Do -/
abbrev n_patch_Do : Nat := 11
noncomputable def code_patch_Do : Code := match Tryd.f11.body with | some c => c | none => .skip
def ann_patch_Do : Nat → Ann
  | _ => {}
noncomputable def ac_patch_Do : AC :=
  (.seq (.reg [⟨some 3, (Op.box 24 (Operand.tmp 1)), none, false⟩, ⟨some 4, (Op.assign (Operand.const (Value.slice none 0 0))), none, false⟩, ⟨some 5, (Op.assign (Operand.const (Value.int IntKind.i64 0))), none, false⟩]) (.seq (.seq (.reg [⟨some 7, (Op.fieldAddr 24 (Operand.tmp 3) 0), none, false⟩, ⟨some 8, (Op.load 3 (Operand.tmp 7)), none, false⟩, ⟨some 9, (Op.binOp BinOp.lss 3 (Operand.tmp 8) (Operand.const (Value.int IntKind.i64 0)) 3), none, false⟩, ⟨some 10, (Op.move (Operand.tmp 9)), none, false⟩, ⟨some 11, (Op.fieldAddr 24 (Operand.tmp 3) 0), (some (some 10, false)), false⟩, ⟨some 12, (Op.load 3 (Operand.tmp 11)), (some (some 10, false)), false⟩, ⟨some 13, (Op.move (Operand.tmp 0)), (some (some 10, false)), false⟩, ⟨some 14, (Op.call (Call.mk (Callee.builtin Builtin.len) #[(Operand.tmp 13)] #[38])), (some (some 10, false)), false⟩, ⟨some 15, (Op.fieldAddr 24 (Operand.tmp 3) 1), (some (some 10, false)), false⟩, ⟨some 16, (Op.load 22 (Operand.tmp 15)), (some (some 10, false)), false⟩, ⟨some 17, (Op.call (Call.mk (Callee.builtin Builtin.len) #[(Operand.tmp 16)] #[22])), (some (some 10, false)), false⟩, ⟨some 18, (Op.binOp BinOp.add 3 (Operand.tmp 14) (Operand.tmp 17) 3), (some (some 10, false)), false⟩, ⟨some 19, (Op.binOp BinOp.gtr 3 (Operand.tmp 12) (Operand.tmp 18) 3), (some (some 10, false)), false⟩, ⟨some 20, (Op.pick (Operand.tmp 10) (Operand.const (Value.bool true)) (Operand.tmp 19)), none, false⟩]) (.cond (Operand.tmp 20) (.seq (.reg [⟨some 4, (Op.assign (Operand.const (Value.slice none 0 0))), none, false⟩, ⟨some 5, (Op.assign (Operand.const (Value.int IntKind.i64 1))), none, false⟩]) .ret) .skip)) (.seq (.reg [⟨some 21, (Op.load 24 (Operand.tmp 3)), none, false⟩, ⟨some 22, (Op.build 63 #[(0, (Operand.tmp 21))]), none, false⟩, ⟨some 6, (Op.alloc 63), none, false⟩, ⟨none, (Op.store 63 (Operand.tmp 6) (Operand.tmp 22)), none, false⟩]) (.seq (.block 0 (.loop (.seq (.seq (.reg [⟨some 23, (Op.fieldAddr 63 (Operand.tmp 6) 1), none, false⟩, ⟨some 24, (Op.load 38 (Operand.tmp 23)), none, false⟩, ⟨some 25, (Op.call (Call.mk (Callee.builtin Builtin.len) #[(Operand.tmp 24)] #[38])), none, false⟩, ⟨some 26, (Op.fieldAddr 24 (Operand.tmp 3) 0), none, false⟩, ⟨some 27, (Op.load 3 (Operand.tmp 26)), none, false⟩, ⟨some 28, (Op.binOp BinOp.lss 3 (Operand.tmp 25) (Operand.tmp 27) 3), none, false⟩]) (.cond (Operand.tmp 28) .skip (.exit 0))) (.block 1 (.seq (.reg [⟨some 29, (Op.move (Operand.tmp 0)), none, false⟩, ⟨some 30, (Op.call (Call.mk (Callee.value (Operand.func 22)) #[(Operand.tmp 6), (Operand.tmp 29)] #[63, 38])), none, false⟩, ⟨some 31, (Op.unOp UnOp.not 4 (Operand.tmp 30)), none, false⟩]) (.cond (Operand.tmp 31) (.seq (.reg [⟨some 4, (Op.assign (Operand.const (Value.slice none 0 0))), none, false⟩, ⟨some 5, (Op.assign (Operand.const (Value.int IntKind.i64 1))), none, false⟩]) .ret) .skip)))))) (.seq (.seq (.reg [⟨some 32, (Op.fieldAddr 63 (Operand.tmp 6) 0), none, false⟩, ⟨some 33, (Op.fieldAddr 24 (Operand.tmp 32) 1), none, false⟩, ⟨some 34, (Op.load 22 (Operand.tmp 33)), none, false⟩, ⟨some 35, (Op.call (Call.mk (Callee.builtin Builtin.len) #[(Operand.tmp 34)] #[22])), none, false⟩, ⟨some 36, (Op.binOp BinOp.gtr 3 (Operand.tmp 35) (Operand.const (Value.int IntKind.i64 0)) 3), none, false⟩]) (.cond (Operand.tmp 36) (.seq (.reg [⟨some 4, (Op.assign (Operand.const (Value.slice none 0 0))), none, false⟩, ⟨some 5, (Op.assign (Operand.const (Value.int IntKind.i64 1))), none, false⟩]) .ret) .skip)) (.seq (.reg [⟨some 37, (Op.fieldAddr 63 (Operand.tmp 6) 1), none, false⟩, ⟨some 38, (Op.load 38 (Operand.tmp 37)), none, false⟩, ⟨some 4, (Op.assign (Operand.tmp 38)), none, false⟩, ⟨some 5, (Op.assign (Operand.const (Value.int IntKind.i64 0))), none, false⟩]) .ret))))))
theorem body_patch_Do : Tryd.f11.body = some code_patch_Do := by kernel_rfl
theorem slim_patch_Do : slim ann_patch_Do code_patch_Do = some ac_patch_Do := by kernel_rfl
theorem name_patch_Do : (Tryd.f11.name == "runtime.NumGoroutine") = false := by kernel_rfl
theorem enter_patch_Do {args : List AV} {h : Hp} {Q : AE → Hp → Prop} (H : awp Tryd.prog tab ac_patch_Do (retQ tab [(ResultVar.tmp 4), (ResultVar.tmp 5)] Q) ⟨args ++ List.replicate (39 - args.length) .any, h⟩) : ACalls Tryd.prog 11 args h Q :=
  acalls_of tab_ok mixed Tryd.func11 body_patch_Do name_patch_Do slim_patch_Do rfl Tryd.ntmps11 H
/-- stylus/patch.Do -/
def patch_Do.w (a0_ : List (List ByteArray)) (a1_ : ApiPatch) (Q : ((List (List ByteArray)) × Int) → Prop) : Prop :=
  if a1_.Pages < 0 then
    Q (([] : List (List ByteArray)), 1)
  else
    (I64 ((a0_.length : Int) + (a1_.Changes.length : Int))) ∧
    if (a0_.length : Int) + (a1_.Changes.length : Int) < a1_.Pages then
      Q (([] : List (List ByteArray)), 1)
    else
      wloop (σ := ApiPatch × (List (List ByteArray))) (fun ⟨a1, a2⟩ next1 =>
        if (a2.length : Int) < a1_.Pages then
          patch_book_page_i0.w a0_ a1 a2 (fun r1 v1 v2 =>
            if (!r1) = true then
              Q (([] : List (List ByteArray)), 1)
            else
              next1 (v1, v2))
        else
          if 0 < (a1.Changes.length : Int) then
            Q (([] : List (List ByteArray)), 1)
          else
            Q (a2, 0)) (a1_, ([] : List (List ByteArray)))
theorem patch_Do.ok {a0_ : List (List ByteArray)} {a1_ : ApiPatch} {Q : ((List (List ByteArray)) × Int) → Prop} (hm : patch_Do.w a0_ a1_ Q) (h0 : Hp) : ACalls Tryd.prog n_patch_Do [(.isl 1 (a0_.map (encSl 1 AM.encStr))), (.agg (ApiPatch.enc a1_))] h0 (Back h0 (fun r => .tup [(.isl 1 (r.1.map (encSl 1 AM.encStr))), (aint r.2)]) Q) := by
  refine enter_patch_Do ?_
  unfold patch_Do.w at hm
  have H := AM.Own.nil h0
  simp (maxSteps := 4000000) -implicitDefEqProofs (disch := omega) only [push_cast, Nat.reduceAdd, Nat.reduceLeDiff, Nat.reduceMul, Nat.reduceSub, Nat.reduceLT, Nat.reduceEqDiff, Int.reduceAdd, Int.reduceSub, Int.reduceLE, Int.reduceLT, Int.reduceEq, Int.reduceNe, Int.reduceToNat, Int.reduceNeg, reduceIte, reduceCtorEq, ac_patch_Do]
  refine H.newR (ApiPatch.enc a1_) rfl (fun b1 h1 H => ?_)
  have e0 := H.getP 0 rfl
  simp (maxSteps := 4000000) -implicitDefEqProofs (disch := omega) only [push_cast, Nat.reduceAdd, Nat.reduceLeDiff, Nat.reduceMul, Nat.reduceSub, Nat.reduceLT, Nat.reduceEqDiff, Int.reduceAdd, Int.reduceSub, Int.reduceLE, Int.reduceLT, Int.reduceEq, Int.reduceNe, Int.reduceToNat, Int.reduceNeg, reduceIte, reduceCtorEq, e0]
  rw [gfork_cond']
  refine ⟨fun c1 => ?_, fun c1 => ?_⟩
  · replace hm := ifp hm c1
    have e0 := H.getP 0 rfl
    simp (maxSteps := 4000000) -implicitDefEqProofs (disch := omega) only [push_cast, Nat.reduceAdd, Nat.reduceLeDiff, Nat.reduceMul, Nat.reduceSub, Nat.reduceLT, Nat.reduceEqDiff, Int.reduceAdd, Int.reduceSub, Int.reduceLE, Int.reduceLT, Int.reduceEq, Int.reduceNe, Int.reduceToNat, Int.reduceNeg, reduceIte, reduceCtorEq, eq_true c1, e0]
    exact retQ_back (.inl rfl) (([] : List (List ByteArray)), 1) _ rfl (Shift.tup (Shifts.at (Shift.nil _ 1) [] [_])) H.sub hm
  · replace hm := ifn hm c1
    obtain ⟨w1, hm⟩ := hm
    have e0 := H.getP 0 rfl
    simp (maxSteps := 4000000) -implicitDefEqProofs (disch := omega) only [push_cast, Nat.reduceAdd, Nat.reduceLeDiff, Nat.reduceMul, Nat.reduceSub, Nat.reduceLT, Nat.reduceEqDiff, Int.reduceAdd, Int.reduceSub, Int.reduceLE, Int.reduceLT, Int.reduceEq, Int.reduceNe, Int.reduceToNat, Int.reduceNeg, reduceIte, reduceCtorEq, eq_false c1, wrap_i64 _ w1, e0]
    rw [fork_cond]
    refine ⟨fun c2 => ?_, fun c2 => ?_⟩
    · replace hm := ifp hm c2
      have e0 := H.getP 0 rfl
      simp (maxSteps := 4000000) -implicitDefEqProofs (disch := omega) only [push_cast, Nat.reduceAdd, Nat.reduceLeDiff, Nat.reduceMul, Nat.reduceSub, Nat.reduceLT, Nat.reduceEqDiff, Int.reduceAdd, Int.reduceSub, Int.reduceLE, Int.reduceLT, Int.reduceEq, Int.reduceNe, Int.reduceToNat, Int.reduceNeg, reduceIte, reduceCtorEq, eq_false c1, wrap_i64 _ w1, eq_true c2, e0]
      exact retQ_back (.inl rfl) (([] : List (List ByteArray)), 1) _ rfl (Shift.tup (Shifts.at (Shift.nil _ 1) [] [_])) H.sub hm
    · replace hm := ifn hm c2
      have e0 := H.getP 0 rfl
      simp (maxSteps := 4000000) -implicitDefEqProofs (disch := omega) only [push_cast, Nat.reduceAdd, Nat.reduceLeDiff, Nat.reduceMul, Nat.reduceSub, Nat.reduceLT, Nat.reduceEqDiff, Int.reduceAdd, Int.reduceSub, Int.reduceLE, Int.reduceLT, Int.reduceEq, Int.reduceNe, Int.reduceToNat, Int.reduceNeg, reduceIte, reduceCtorEq, eq_false c1, wrap_i64 _ w1, eq_false c2, e0]
      refine H.newR [(aint 0), anil, anil] rfl (fun b2 h2 H => ?_)
      have e0 := H.getP 0 rfl
      have e1 := H.getP 1 rfl
      simp (maxSteps := 4000000) -implicitDefEqProofs (disch := omega) only [push_cast, Nat.reduceAdd, Nat.reduceLeDiff, Nat.reduceMul, Nat.reduceSub, Nat.reduceLT, Nat.reduceEqDiff, Int.reduceAdd, Int.reduceSub, Int.reduceLE, Int.reduceLT, Int.reduceEq, Int.reduceNe, Int.reduceToNat, Int.reduceNeg, reduceIte, reduceCtorEq, eq_false c1, wrap_i64 _ w1, eq_false c2, e0, e1]
      refine H.stP 1 ((ApiPatch.enc a1_) ++ [anil]) rfl rfl rfl rfl (Nat.le_of_ble_eq_true rfl) rfl (fun h3 H => ?_)
      have e0 := H.getP 0 rfl
      have e1 := H.getP 1 rfl
      simp (maxSteps := 4000000) -implicitDefEqProofs (disch := omega) only [push_cast, Nat.reduceAdd, Nat.reduceLeDiff, Nat.reduceMul, Nat.reduceSub, Nat.reduceLT, Nat.reduceEqDiff, Int.reduceAdd, Int.reduceSub, Int.reduceLE, Int.reduceLT, Int.reduceEq, Int.reduceNe, Int.reduceToNat, Int.reduceNeg, reduceIte, reduceCtorEq, eq_false c1, wrap_i64 _ w1, eq_false c2, e0, e1]
      obtain ⟨inv1, mu1, hi1, hs1⟩ := hm
      replace H := H.addNil 1 (some (35, 0))
      replace H := H.perm [0, 1, 2] (by decide)
      refine awp_loop (σ := (ApiPatch × (List (List ByteArray))) × AV × Hp) (fun ⟨⟨a1, a2⟩, x1, h4⟩ => ⟨(((List.replicate 39 AV.any).set 0 (.isl 1 (a0_.map (encSl 1 AM.encStr)))).set 3 (.optr b1 2 0 0)).set 6 (.optr b2 3 0 0), h4⟩) (fun ⟨⟨a1, a2⟩, x1, h4⟩ => inv1 (a1, a2) ∧ AM.Own h0 h4 [⟨(.optr b1 2 0 0), true, 2, [(ApiPatch.enc a1_)], some (24, 2)⟩, ⟨(.optr b2 3 0 0), true, 3, [((ApiPatch.enc a1) ++ [x1])], some (63, 3)⟩, ⟨x1, false, 1, a2.map (encSl 1 AM.encStr), some (35, 0)⟩]) (fun ⟨⟨a1, a2⟩, x1, h4⟩ => mu1 (a1, a2)) ⟨(a1_, ([] : List (List ByteArray))), anil, h3⟩ (Retell.weak (by simp [Weak, push_cast]) (Hp.sub.refl _)) ⟨hi1, H⟩ ?_
      rintro ⟨⟨a1, a2⟩, x1, h4⟩ ⟨hi1, H⟩
      have hm := hs1 _ hi1
      dsimp only at hm H ⊢
      have e0 := H.getP 0 rfl
      have e1 := H.getP 1 rfl
      simp (maxSteps := 4000000) -implicitDefEqProofs (disch := omega) only [push_cast, Nat.reduceAdd, Nat.reduceLeDiff, Nat.reduceMul, Nat.reduceSub, Nat.reduceLT, Nat.reduceEqDiff, Int.reduceAdd, Int.reduceSub, Int.reduceLE, Int.reduceLT, Int.reduceEq, Int.reduceNe, Int.reduceToNat, Int.reduceNeg, reduceIte, reduceCtorEq, eq_false c1, wrap_i64 _ w1, eq_false c2, H.lenE 2 rfl tab_38, e0, e1]
      rw [fork_cond]
      refine ⟨fun c3 => ?_, fun c3 => ?_⟩
      · replace hm := ifp hm c3
        have e0 := H.getP 0 rfl
        have e1 := H.getP 1 rfl
        simp (maxSteps := 4000000) -implicitDefEqProofs (disch := omega) only [push_cast, Nat.reduceAdd, Nat.reduceLeDiff, Nat.reduceMul, Nat.reduceSub, Nat.reduceLT, Nat.reduceEqDiff, Int.reduceAdd, Int.reduceSub, Int.reduceLE, Int.reduceLT, Int.reduceEq, Int.reduceNe, Int.reduceToNat, Int.reduceNeg, reduceIte, reduceCtorEq, eq_false c1, wrap_i64 _ w1, eq_false c2, eq_true c3, e0, e1]
        obtain ⟨h5, HF1, hB1⟩ := H.frame [2, 1] (by decide)
        refine calls_of (patch_book_page_i0.ok hm HF1) ?_
        rintro _ h6 ⟨r1, v1, v2, x2, rfl, H', hm⟩
        replace H := hB1 _ _ rfl H'
        have e0 := H.getP 0 rfl
        have e1 := H.getP 1 rfl
        simp (maxSteps := 4000000) -implicitDefEqProofs (disch := omega) only [push_cast, Nat.reduceAdd, Nat.reduceLeDiff, Nat.reduceMul, Nat.reduceSub, Nat.reduceLT, Nat.reduceEqDiff, Int.reduceAdd, Int.reduceSub, Int.reduceLE, Int.reduceLT, Int.reduceEq, Int.reduceNe, Int.reduceToNat, Int.reduceNeg, reduceIte, reduceCtorEq, eq_false c1, wrap_i64 _ w1, eq_false c2, eq_true c3, e0, e1]
        rw [fork_bool]
        refine ⟨fun c4 => ?_, fun c4 => ?_⟩
        · replace hm := ifp hm c4
          have e0 := H.getP 0 rfl
          have e1 := H.getP 1 rfl
          simp (maxSteps := 4000000) -implicitDefEqProofs (disch := omega) only [push_cast, Nat.reduceAdd, Nat.reduceLeDiff, Nat.reduceMul, Nat.reduceSub, Nat.reduceLT, Nat.reduceEqDiff, Int.reduceAdd, Int.reduceSub, Int.reduceLE, Int.reduceLT, Int.reduceEq, Int.reduceNe, Int.reduceToNat, Int.reduceNeg, reduceIte, reduceCtorEq, eq_false c1, wrap_i64 _ w1, eq_false c2, eq_true c3, c4, e0, e1]
          exact retQ_back (.inl rfl) (([] : List (List ByteArray)), 1) _ rfl (Shift.tup (Shifts.at (Shift.nil _ 1) [] [_])) H.sub hm
        · replace hm := ifn hm (by rw [c4]; exact Bool.false_ne_true)
          have e0 := H.getP 0 rfl
          have e1 := H.getP 1 rfl
          simp (maxSteps := 4000000) -implicitDefEqProofs (disch := omega) only [push_cast, Nat.reduceAdd, Nat.reduceLeDiff, Nat.reduceMul, Nat.reduceSub, Nat.reduceLT, Nat.reduceEqDiff, Int.reduceAdd, Int.reduceSub, Int.reduceLE, Int.reduceLT, Int.reduceEq, Int.reduceNe, Int.reduceToNat, Int.reduceNeg, reduceIte, reduceCtorEq, eq_false c1, wrap_i64 _ w1, eq_false c2, eq_true c3, c4, e0, e1]
          replace H := H.perm [0, 1, 2] (by decide)
          exact ⟨⟨(v1, v2), x2, h6⟩, hm.2, ⟨hm.1, H⟩, Retell.weak (by simp [Weak, push_cast]) (Hp.sub.refl _)⟩
      · replace hm := ifn hm c3
        have e0 := H.getP 0 rfl
        have e1 := H.getP 1 rfl
        simp (maxSteps := 4000000) -implicitDefEqProofs (disch := omega) only [push_cast, Nat.reduceAdd, Nat.reduceLeDiff, Nat.reduceMul, Nat.reduceSub, Nat.reduceLT, Nat.reduceEqDiff, Int.reduceAdd, Int.reduceSub, Int.reduceLE, Int.reduceLT, Int.reduceEq, Int.reduceNe, Int.reduceToNat, Int.reduceNeg, reduceIte, reduceCtorEq, eq_false c1, wrap_i64 _ w1, eq_false c2, eq_false c3, e0, e1]
        rw [fork_cond]
        refine ⟨fun c5 => ?_, fun c5 => ?_⟩
        · replace hm := ifp hm c5
          have e0 := H.getP 0 rfl
          have e1 := H.getP 1 rfl
          simp (maxSteps := 4000000) -implicitDefEqProofs (disch := omega) only [push_cast, Nat.reduceAdd, Nat.reduceLeDiff, Nat.reduceMul, Nat.reduceSub, Nat.reduceLT, Nat.reduceEqDiff, Int.reduceAdd, Int.reduceSub, Int.reduceLE, Int.reduceLT, Int.reduceEq, Int.reduceNe, Int.reduceToNat, Int.reduceNeg, reduceIte, reduceCtorEq, eq_false c1, wrap_i64 _ w1, eq_false c2, eq_false c3, eq_true c5, e0, e1]
          exact retQ_back (.inl rfl) (([] : List (List ByteArray)), 1) _ rfl (Shift.tup (Shifts.at (Shift.nil _ 1) [] [_])) H.sub hm
        · replace hm := ifn hm c5
          have e0 := H.getP 0 rfl
          have e1 := H.getP 1 rfl
          simp (maxSteps := 4000000) -implicitDefEqProofs (disch := omega) only [push_cast, Nat.reduceAdd, Nat.reduceLeDiff, Nat.reduceMul, Nat.reduceSub, Nat.reduceLT, Nat.reduceEqDiff, Int.reduceAdd, Int.reduceSub, Int.reduceLE, Int.reduceLT, Int.reduceEq, Int.reduceNe, Int.reduceToNat, Int.reduceNeg, reduceIte, reduceCtorEq, eq_false c1, wrap_i64 _ w1, eq_false c2, eq_false c3, eq_false c5, e0, e1]
          obtain ⟨h7, s1, H⟩ := H.freeze 2 rfl
          exact retQ_back (.inl rfl) (a2, 0) _ rfl (Shift.tup (Shifts.at s1 [] [_])) H.sub hm
/-! stylus/stylusref35.Lines -/
abbrev n_stylusref35_Lines : Nat := 19
noncomputable def code_stylusref35_Lines : Code := match Tryd.f19.body with | some c => c | none => .skip
def ann_stylusref35_Lines : Nat → Ann
  | 6 => { pure := [], plan := (.op 0 (.op 1 (.op 2 (.op 3 (.op 4 (.op 5 (.op 6 (.op 7 (.op 8 .done))))))))), ghost := false, post := false }
  | _ => {}
noncomputable def ac_stylusref35_Lines : AC :=
  (.seq (.reg [⟨some 4, (Op.assign (Operand.const (Value.bool false))), none, false⟩]) (.seq (.seq (.reg [⟨some 6, (Op.move (Operand.tmp 0)), none, false⟩, ⟨some 7, (Op.call (Call.mk (Callee.builtin Builtin.len) #[(Operand.tmp 6)] #[35])), none, false⟩, ⟨some 8, (Op.move (Operand.tmp 1)), none, false⟩, ⟨some 9, (Op.call (Call.mk (Callee.builtin Builtin.len) #[(Operand.tmp 8)] #[35])), none, false⟩, ⟨some 10, (Op.binOp BinOp.neq 3 (Operand.tmp 7) (Operand.tmp 9) 3), none, false⟩]) (.cond (Operand.tmp 10) (.seq (.reg [⟨some 4, (Op.assign (Operand.const (Value.bool false))), none, false⟩]) .ret) .skip)) (.seq (.seq (.reg [⟨some 5, (Op.assign (Operand.const (Value.int IntKind.i64 0))), none, false⟩]) (.block 0 (.loop (.seq (.seq (.reg [⟨some 11, (Op.move (Operand.tmp 5)), none, false⟩, ⟨some 12, (Op.move (Operand.tmp 0)), none, false⟩, ⟨some 13, (Op.call (Call.mk (Callee.builtin Builtin.len) #[(Operand.tmp 12)] #[35])), none, false⟩, ⟨some 14, (Op.binOp BinOp.lss 3 (Operand.tmp 11) (Operand.tmp 13) 3), none, false⟩]) (.cond (Operand.tmp 14) .skip (.exit 0))) (.seq (.block 1 (.seq (.draw [⟨some 17, (Op.move (Operand.tmp 0)), none, false⟩, ⟨some 18, (Op.move (Operand.tmp 5)), none, false⟩, ⟨some 19, (Op.indexAddr 35 (Operand.tmp 17) (Operand.tmp 18)), none, false⟩, ⟨some 20, (Op.load 9 (Operand.tmp 19)), none, false⟩, ⟨some 21, (Op.move (Operand.tmp 1)), none, false⟩, ⟨some 22, (Op.move (Operand.tmp 5)), none, false⟩, ⟨some 23, (Op.indexAddr 35 (Operand.tmp 21) (Operand.tmp 22)), none, false⟩, ⟨some 24, (Op.load 9 (Operand.tmp 23)), none, false⟩, ⟨some 25, (Op.binOp BinOp.neq 9 (Operand.tmp 20) (Operand.tmp 24) 9), none, false⟩] (.op 0 (.op 1 (.op 2 (.op 3 (.op 4 (.op 5 (.op 6 (.op 7 (.op 8 .done)))))))))) (.cond (Operand.tmp 25) (.seq (.reg [⟨some 4, (Op.assign (Operand.const (Value.bool false))), none, false⟩]) .ret) .skip))) (.reg [⟨some 15, (Op.move (Operand.tmp 5)), none, false⟩, ⟨some 16, (Op.binOp BinOp.add 3 (Operand.tmp 15) (Operand.const (Value.int IntKind.i64 1)) 3), none, false⟩, ⟨some 5, (Op.assign (Operand.tmp 16)), none, false⟩])))))) (.seq (.reg [⟨some 4, (Op.assign (Operand.const (Value.bool true))), none, false⟩]) .ret))))
theorem body_stylusref35_Lines : Tryd.f19.body = some code_stylusref35_Lines := by kernel_rfl
theorem slim_stylusref35_Lines : slim ann_stylusref35_Lines code_stylusref35_Lines = some ac_stylusref35_Lines := by kernel_rfl
theorem name_stylusref35_Lines : (Tryd.f19.name == "runtime.NumGoroutine") = false := by kernel_rfl
theorem enter_stylusref35_Lines {args : List AV} {h : Hp} {Q : AE → Hp → Prop} (H : awp Tryd.prog tab ac_stylusref35_Lines (retQ tab [(ResultVar.tmp 4)] Q) ⟨args ++ List.replicate (26 - args.length) .any, h⟩) : ACalls Tryd.prog 19 args h Q :=
  acalls_of tab_ok mixed Tryd.func19 body_stylusref35_Lines name_stylusref35_Lines slim_stylusref35_Lines rfl Tryd.ntmps19 H
/-- stylus/stylusref35.Lines -/
def stylusref35_Lines.w (a0_ : List ByteArray) (a1_ : List ByteArray) (Q : Bool → Prop) : Prop :=
  if (a0_.length : Int) = (a1_.length : Int) then
    wloop (σ := Int) (fun a1 next1 =>
      if a1 < (a0_.length : Int) then
        (0 ≤ a1) ∧
        ∃ v1 : ByteArray, a0_[a1.toNat]? = some v1 ∧
        ∃ v2 : ByteArray, a1_[a1.toNat]? = some v2 ∧
        if v1 = v2 then
          (I64 (a1 + 1)) ∧
          next1 (a1 + 1)
        else
          Q false
      else
        Q true) 0
  else
    Q false
theorem stylusref35_Lines.ok {a0_ : List ByteArray} {a1_ : List ByteArray} {Q : Bool → Prop} (hm : stylusref35_Lines.w a0_ a1_ Q) (h0 : Hp) : ACalls Tryd.prog n_stylusref35_Lines [(.isl 1 (a0_.map AM.encStr)), (.isl 1 (a1_.map AM.encStr))] h0 (Back h0 (fun r => (abool r)) Q) := by
  refine enter_stylusref35_Lines ?_
  unfold stylusref35_Lines.w at hm
  have H := AM.Own.nil h0
  simp (maxSteps := 4000000) -implicitDefEqProofs (disch := omega) only [push_cast, Nat.reduceAdd, Nat.reduceLeDiff, Nat.reduceMul, Nat.reduceSub, Nat.reduceLT, Nat.reduceEqDiff, Int.reduceAdd, Int.reduceSub, Int.reduceLE, Int.reduceLT, Int.reduceEq, Int.reduceNe, Int.reduceToNat, Int.reduceNeg, reduceIte, reduceCtorEq, ac_stylusref35_Lines]
  rw [fork_cond]
  refine ⟨fun c1 => ?_, fun c1 => ?_⟩
  · replace hm := ifn hm c1
    simp (maxSteps := 4000000) -implicitDefEqProofs (disch := omega) only [push_cast, Nat.reduceAdd, Nat.reduceLeDiff, Nat.reduceMul, Nat.reduceSub, Nat.reduceLT, Nat.reduceEqDiff, Int.reduceAdd, Int.reduceSub, Int.reduceLE, Int.reduceLT, Int.reduceEq, Int.reduceNe, Int.reduceToNat, Int.reduceNeg, reduceIte, reduceCtorEq, eq_false c1]
    exact retQ_back (.inl rfl) false _ rfl (Shift.refl _ _) H.sub hm
  · replace c1 := Decidable.not_not.1 c1
    replace hm := ifp hm c1
    simp (maxSteps := 4000000) -implicitDefEqProofs (disch := omega) only [push_cast, Nat.reduceAdd, Nat.reduceLeDiff, Nat.reduceMul, Nat.reduceSub, Nat.reduceLT, Nat.reduceEqDiff, Int.reduceAdd, Int.reduceSub, Int.reduceLE, Int.reduceLT, Int.reduceEq, Int.reduceNe, Int.reduceToNat, Int.reduceNeg, reduceIte, reduceCtorEq, eq_true c1]
    obtain ⟨inv1, mu1, hi1, hs1⟩ := hm
    replace H := H.perm [] (by decide)
    refine awp_loop (σ := Int × Hp) (fun ⟨a1, h1⟩ => ⟨(((List.replicate 26 AV.any).set 0 (.isl 1 (a0_.map AM.encStr))).set 1 (.isl 1 (a1_.map AM.encStr))).set 5 (aint a1), h1⟩) (fun ⟨a1, h1⟩ => inv1 a1 ∧ AM.Own h0 h1 []) (fun ⟨a1, h1⟩ => mu1 a1) ⟨0, h0⟩ (Retell.weak (by simp [Weak, push_cast]) (Hp.sub.refl _)) ⟨hi1, H⟩ ?_
    rintro ⟨a1, h1⟩ ⟨hi1, H⟩
    have hm := hs1 _ hi1
    dsimp only at hm H ⊢
    simp (maxSteps := 4000000) -implicitDefEqProofs (disch := omega) only [push_cast, Nat.reduceAdd, Nat.reduceLeDiff, Nat.reduceMul, Nat.reduceSub, Nat.reduceLT, Nat.reduceEqDiff, Int.reduceAdd, Int.reduceSub, Int.reduceLE, Int.reduceLT, Int.reduceEq, Int.reduceNe, Int.reduceToNat, Int.reduceNeg, reduceIte, reduceCtorEq, eq_true c1]
    rw [fork_cond]
    refine ⟨fun c2 => ?_, fun c2 => ?_⟩
    · replace hm := ifp hm c2
      obtain ⟨z1, hm⟩ := hm
      obtain ⟨v1, i1, hm⟩ := hm
      obtain ⟨v2, i2, hm⟩ := hm
      simp (maxSteps := 4000000) -implicitDefEqProofs (disch := omega) only [push_cast, Nat.reduceAdd, Nat.reduceLeDiff, Nat.reduceMul, Nat.reduceSub, Nat.reduceLT, Nat.reduceEqDiff, Int.reduceAdd, Int.reduceSub, Int.reduceLE, Int.reduceLT, Int.reduceEq, Int.reduceNe, Int.reduceToNat, Int.reduceNeg, reduceIte, reduceCtorEq, eq_true c1, eq_true c2, eq_true z1, i1, i2]
      rw [fork_cond]
      refine ⟨fun c3 => ?_, fun c3 => ?_⟩
      · replace hm := ifn hm c3
        simp (maxSteps := 4000000) -implicitDefEqProofs (disch := omega) only [push_cast, Nat.reduceAdd, Nat.reduceLeDiff, Nat.reduceMul, Nat.reduceSub, Nat.reduceLT, Nat.reduceEqDiff, Int.reduceAdd, Int.reduceSub, Int.reduceLE, Int.reduceLT, Int.reduceEq, Int.reduceNe, Int.reduceToNat, Int.reduceNeg, reduceIte, reduceCtorEq, eq_true c1, eq_true c2, eq_true z1, i1, i2, eq_false c3]
        exact retQ_back (.inl rfl) false _ rfl (Shift.refl _ _) H.sub hm
      · replace c3 := Decidable.not_not.1 c3
        replace hm := ifp hm c3
        obtain ⟨w1, hm⟩ := hm
        simp (maxSteps := 4000000) -implicitDefEqProofs (disch := omega) only [push_cast, Nat.reduceAdd, Nat.reduceLeDiff, Nat.reduceMul, Nat.reduceSub, Nat.reduceLT, Nat.reduceEqDiff, Int.reduceAdd, Int.reduceSub, Int.reduceLE, Int.reduceLT, Int.reduceEq, Int.reduceNe, Int.reduceToNat, Int.reduceNeg, reduceIte, reduceCtorEq, eq_true c1, eq_true c2, eq_true z1, i1, i2, eq_true c3, wrap_i64 _ w1]
        replace H := H.perm [] (by decide)
        exact ⟨⟨a1 + 1, h1⟩, hm.2, ⟨hm.1, H⟩, Retell.weak (by simp [Weak, push_cast]) (Hp.sub.refl _)⟩
    · replace hm := ifn hm c2
      simp (maxSteps := 4000000) -implicitDefEqProofs (disch := omega) only [push_cast, Nat.reduceAdd, Nat.reduceLeDiff, Nat.reduceMul, Nat.reduceSub, Nat.reduceLT, Nat.reduceEqDiff, Int.reduceAdd, Int.reduceSub, Int.reduceLE, Int.reduceLT, Int.reduceEq, Int.reduceNe, Int.reduceToNat, Int.reduceNeg, reduceIte, reduceCtorEq, eq_true c1, eq_false c2]
      exact retQ_back (.inl rfl) true _ rfl (Shift.refl _ _) H.sub hm
end Go.Proofs.YtggcmnoacplbkaaDoor
