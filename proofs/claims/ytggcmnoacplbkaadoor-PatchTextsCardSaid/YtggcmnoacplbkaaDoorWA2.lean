/- Functions of the program: code, what is asked for their answers, the walk (printed by pr.py). -/
import Derived.Test.YtggcmnoacplbkaaDoorWA1
namespace Go.Proofs.YtggcmnoacplbkaaDoor
open Go Go.Proofs.YtggcmnoacplbkaaDoor.AM
set_option maxRecDepth 100000
set_option linter.unusedSimpArgs false
set_option linter.unusedVariables false
set_option maxHeartbeats 4000000
/-! stylus/patch.Of -/
abbrev n_patch_Of : Nat := 10
noncomputable def code_patch_Of : Code := match Tryd.f10.body with | some c => c | none => .skip
def ann_patch_Of : Nat → Ann
  | 6 => { pure := [5], plan := (.op 0 (.op 1 (.op 2 (.op 3 (.op 4 (.op 5 (.op 6 (.op 7 (.op 8 (.op 9 (.op 10 .done))))))))))), ghost := false, post := false }
  | _ => {}
noncomputable def ac_patch_Of_c1 : AC :=
  (.seq (.reg [⟨some 18, (Op.move (Operand.tmp 6)), none, false⟩, ⟨some 19, (Op.move (Operand.tmp 0)), none, false⟩, ⟨some 20, (Op.call (Call.mk (Callee.builtin Builtin.len) #[(Operand.tmp 19)] #[38])), none, false⟩, ⟨some 21, (Op.binOp BinOp.geq 3 (Operand.tmp 18) (Operand.tmp 20) 3), none, false⟩, ⟨some 22, (Op.move (Operand.tmp 21)), none, false⟩, ⟨some 23, (Op.move (Operand.tmp 0)), (some (some 22, false)), false⟩, ⟨some 24, (Op.move (Operand.tmp 6)), (some (some 22, false)), false⟩, ⟨some 25, (Op.indexAddr 38 (Operand.tmp 23) (Operand.tmp 24)), (some (some 22, false)), false⟩, ⟨some 26, (Op.load 35 (Operand.tmp 25)), (some (some 22, false)), false⟩, ⟨some 27, (Op.move (Operand.tmp 7)), (some (some 22, false)), false⟩, ⟨some 28, (Op.call (Call.mk (Callee.value (Operand.func 20)) #[(Operand.tmp 26), (Operand.tmp 27)] #[35, 35])), (some (some 22, false)), false⟩, ⟨some 29, (Op.unOp UnOp.not 4 (Operand.tmp 28)), (some (some 22, false)), false⟩, ⟨some 30, (Op.pick (Operand.tmp 22) (Operand.const (Value.bool true)) (Operand.tmp 29)), none, false⟩]) (.cond (Operand.tmp 30) (.draw [⟨some 31, (Op.fieldAddr 24 (Operand.tmp 5) 1), none, false⟩, ⟨some 32, (Op.load 22 (Operand.tmp 31)), none, false⟩, ⟨some 33, (Op.move (Operand.tmp 6)), none, false⟩, ⟨some 34, (Op.binOp BinOp.add 3 (Operand.tmp 33) (Operand.const (Value.int IntKind.i64 1)) 3), none, false⟩, ⟨some 35, (Op.move (Operand.tmp 7)), none, false⟩, ⟨some 36, (Op.call (Call.mk (Callee.value (Operand.func 21)) #[(Operand.tmp 35)] #[35])), none, true⟩, ⟨some 37, (Op.build 37 #[(0, (Operand.tmp 34)), (1, (Operand.tmp 36))]), none, false⟩, ⟨some 38, (Op.buildSlice 22 1 #[(0, (Operand.tmp 37))]), none, false⟩, ⟨some 39, (Op.call (Call.mk (Callee.builtin Builtin.append) #[(Operand.tmp 32), (Operand.tmp 38)] #[22, 22])), none, false⟩, ⟨some 40, (Op.fieldAddr 24 (Operand.tmp 5) 1), none, false⟩, ⟨none, (Op.store 22 (Operand.tmp 40) (Operand.tmp 39)), none, false⟩] (.op 0 (.op 1 (.op 2 (.op 3 (.op 4 (.op 5 (.op 6 (.op 7 (.op 8 (.op 9 (.op 10 .done)))))))))))) .skip))
noncomputable def ac_patch_Of : AC :=
  (.seq (.reg [⟨some 4, (Op.alloc 24), none, false⟩]) (.seq (.reg [⟨some 8, (Op.move (Operand.tmp 1)), none, false⟩, ⟨some 9, (Op.call (Call.mk (Callee.builtin Builtin.len) #[(Operand.tmp 8)] #[38])), none, false⟩, ⟨some 10, (Op.build 24 #[(0, (Operand.tmp 9))]), none, false⟩, ⟨some 5, (Op.alloc 24), none, false⟩, ⟨none, (Op.store 24 (Operand.tmp 5) (Operand.tmp 10)), none, false⟩]) (.seq (.seq (.reg [⟨some 11, (Op.move (Operand.tmp 1)), none, false⟩, ⟨some 12, (Op.call (Call.mk (Callee.builtin Builtin.len) #[(Operand.tmp 11)] #[38])), none, false⟩, ⟨some 13, (Op.move (Operand.const (Value.int IntKind.i64 0))), none, false⟩]) (.block 0 (.loop (.seq (.reg [⟨some 14, (Op.binOp BinOp.lss 3 (Operand.tmp 13) (Operand.tmp 12) 3), none, false⟩]) (.seq (.cond (Operand.tmp 14) .skip (.exit 0)) (.seq (.block 1 (.seq (.reg [⟨some 15, (Op.move (Operand.tmp 13)), none, false⟩, ⟨some 16, (Op.indexAddr 38 (Operand.tmp 11) (Operand.tmp 13)), none, false⟩, ⟨some 17, (Op.load 35 (Operand.tmp 16)), none, false⟩, ⟨some 6, (Op.assign (Operand.tmp 15)), none, false⟩, ⟨some 7, (Op.assign (Operand.tmp 17)), none, false⟩]) ac_patch_Of_c1)) (.reg [⟨some 41, (Op.binOp BinOp.add 3 (Operand.tmp 13) (Operand.const (Value.int IntKind.i64 1)) 3), none, false⟩, ⟨some 13, (Op.move (Operand.tmp 41)), none, false⟩]))))))) (.seq (.reg [⟨some 42, (Op.load 24 (Operand.tmp 5)), none, false⟩, ⟨none, (Op.store 24 (Operand.tmp 4) (Operand.tmp 42)), none, false⟩]) .ret))))
theorem body_patch_Of : Tryd.f10.body = some code_patch_Of := by kernel_rfl
theorem slim_patch_Of : slim ann_patch_Of code_patch_Of = some ac_patch_Of := by kernel_rfl
theorem name_patch_Of : (Tryd.f10.name == "runtime.NumGoroutine") = false := by kernel_rfl
theorem enter_patch_Of {args : List AV} {h : Hp} {Q : AE → Hp → Prop} (H : awp Tryd.prog tab ac_patch_Of (retQ tab [(ResultVar.cell 4 24)] Q) ⟨args ++ List.replicate (43 - args.length) .any, h⟩) : ACalls Tryd.prog 10 args h Q :=
  acalls_of tab_ok mixed Tryd.func10 body_patch_Of name_patch_Of slim_patch_Of rfl Tryd.ntmps10 H
/-- stylus/patch.Of -/
def patch_Of.w (a0_ : List (List ByteArray)) (a1_ : List (List ByteArray)) (Q : ApiPatch → Prop) : Prop :=
  wloop (σ := Int × (List ApiChange) × Int × (List ApiChange) × Int) (fun ⟨a1, a2, a3, a4, a5⟩ next1 =>
    if a5 < (a1_.length : Int) then
      (0 ≤ a5) ∧
      ∃ v1 : List ByteArray, a1_[a5.toNat]? = some v1 ∧
      wcut (α := Bool) (fun k1 =>
        if (a0_.length : Int) ≤ a5 then
          k1 true
        else
          ∃ v2 : List ByteArray, a0_[a5.toNat]? = some v2 ∧
          slices_Equal_string_string.w v2 v1 (fun r1 =>
            k1 (!r1))) (fun a6 =>
        if a6 = true then
          (I64 (a5 + 1)) ∧
          ∃ r2 : List ByteArray, slices_Clone_string_string.w v1 (fun r' => r' = r2) ∧
          ((a4.length + ([(⟨a5 + 1, r2⟩ : ApiChange)] : List ApiChange).length) * 32 ≤ 140737488355328) ∧
          (I64 (a5 + 1)) ∧
          next1 (a1, a2, a3, a4 ++ ([(⟨a5 + 1, r2⟩ : ApiChange)] : List ApiChange), a5 + 1)
        else
          (I64 (a5 + 1)) ∧
          next1 (a1, a2, a3, a4, a5 + 1))
    else
      Q (⟨a3, a4⟩ : ApiPatch)) (0, ([] : List ApiChange), (a1_.length : Int), ([] : List ApiChange), 0)
theorem patch_Of.ok {a0_ : List (List ByteArray)} {a1_ : List (List ByteArray)} {Q : ApiPatch → Prop} (hm : patch_Of.w a0_ a1_ Q) (h0 : Hp) : ACalls Tryd.prog n_patch_Of [(.isl 1 (a0_.map (encSl 1 AM.encStr))), (.isl 1 (a1_.map (encSl 1 AM.encStr)))] h0 (Back h0 (fun r => (.agg (ApiPatch.enc r))) Q) := by
  refine enter_patch_Of ?_
  unfold patch_Of.w at hm
  have H := AM.Own.nil h0
  simp (maxSteps := 4000000) -implicitDefEqProofs (disch := omega) only [push_cast, Nat.reduceAdd, Nat.reduceLeDiff, Nat.reduceMul, Nat.reduceSub, Nat.reduceLT, Nat.reduceEqDiff, Int.reduceAdd, Int.reduceSub, Int.reduceLE, Int.reduceLT, Int.reduceEq, Int.reduceNe, Int.reduceToNat, Int.reduceNeg, reduceIte, reduceCtorEq, ac_patch_Of]
  refine H.newR [(aint 0), anil] rfl (fun b1 h1 H => ?_)
  have e0 := H.getP 0 rfl
  simp (maxSteps := 4000000) -implicitDefEqProofs (disch := omega) only [push_cast, Nat.reduceAdd, Nat.reduceLeDiff, Nat.reduceMul, Nat.reduceSub, Nat.reduceLT, Nat.reduceEqDiff, Int.reduceAdd, Int.reduceSub, Int.reduceLE, Int.reduceLT, Int.reduceEq, Int.reduceNe, Int.reduceToNat, Int.reduceNeg, reduceIte, reduceCtorEq, e0]
  refine H.newR [(aint 0), anil] rfl (fun b2 h2 H => ?_)
  have e0 := H.getP 0 rfl
  have e1 := H.getP 1 rfl
  simp (maxSteps := 4000000) -implicitDefEqProofs (disch := omega) only [push_cast, Nat.reduceAdd, Nat.reduceLeDiff, Nat.reduceMul, Nat.reduceSub, Nat.reduceLT, Nat.reduceEqDiff, Int.reduceAdd, Int.reduceSub, Int.reduceLE, Int.reduceLT, Int.reduceEq, Int.reduceNe, Int.reduceToNat, Int.reduceNeg, reduceIte, reduceCtorEq, e0, e1]
  refine H.stP 1 [(aint (a1_.length : Int)), anil] rfl rfl rfl rfl (Nat.le_of_ble_eq_true rfl) rfl (fun h3 H => ?_)
  have e0 := H.getP 0 rfl
  have e1 := H.getP 1 rfl
  simp (maxSteps := 4000000) -implicitDefEqProofs (disch := omega) only [push_cast, Nat.reduceAdd, Nat.reduceLeDiff, Nat.reduceMul, Nat.reduceSub, Nat.reduceLT, Nat.reduceEqDiff, Int.reduceAdd, Int.reduceSub, Int.reduceLE, Int.reduceLT, Int.reduceEq, Int.reduceNe, Int.reduceToNat, Int.reduceNeg, reduceIte, reduceCtorEq, e0, e1]
  obtain ⟨inv1, mu1, hi1, hs1⟩ := hm
  replace H := H.addNil 2 (some (37, 0))
  replace H := H.addNil 2 (some (37, 0))
  replace H := H.perm [0, 1, 2, 3] (by decide)
  refine awp_loop (σ := (Int × (List ApiChange) × Int × (List ApiChange) × Int) × AV × AV × Hp) (fun ⟨⟨a1, a2, a3, a4, a5⟩, x1, x2, h4⟩ => ⟨((((((List.replicate 43 AV.any).set 0 (.isl 1 (a0_.map (encSl 1 AM.encStr)))).set 4 (.optr b1 2 0 0)).set 5 (.optr b2 2 0 0)).set 11 (.isl 1 (a1_.map (encSl 1 AM.encStr)))).set 12 (aint (a1_.length : Int))).set 13 (aint a5), h4⟩) (fun ⟨⟨a1, a2, a3, a4, a5⟩, x1, x2, h4⟩ => inv1 (a1, a2, a3, a4, a5) ∧ AM.Own h0 h4 [⟨(.optr b1 2 0 0), true, 2, [[(aint a1), x1]], some (24, 2)⟩, ⟨(.optr b2 2 0 0), true, 2, [[(aint a3), x2]], some (24, 2)⟩, ⟨x1, false, 2, a2.map ApiChange.enc, some (37, 0)⟩, ⟨x2, false, 2, a4.map ApiChange.enc, some (37, 0)⟩]) (fun ⟨⟨a1, a2, a3, a4, a5⟩, x1, x2, h4⟩ => mu1 (a1, a2, a3, a4, a5)) ⟨(0, ([] : List ApiChange), (a1_.length : Int), ([] : List ApiChange), 0), anil, anil, h3⟩ (Retell.weak (by simp [Weak, push_cast]) (Hp.sub.refl _)) ⟨hi1, H⟩ ?_
  rintro ⟨⟨a1, a2, a3, a4, a5⟩, x1, x2, h4⟩ ⟨hi1, H⟩
  have hm := hs1 _ hi1
  dsimp only at hm H ⊢
  have e0 := H.getP 0 rfl
  have e1 := H.getP 1 rfl
  simp (maxSteps := 4000000) -implicitDefEqProofs (disch := omega) only [push_cast, Nat.reduceAdd, Nat.reduceLeDiff, Nat.reduceMul, Nat.reduceSub, Nat.reduceLT, Nat.reduceEqDiff, Int.reduceAdd, Int.reduceSub, Int.reduceLE, Int.reduceLT, Int.reduceEq, Int.reduceNe, Int.reduceToNat, Int.reduceNeg, reduceIte, reduceCtorEq, e0, e1]
  rw [fork_cond]
  refine ⟨fun c1 => ?_, fun c1 => ?_⟩
  · replace hm := ifp hm c1
    obtain ⟨z1, hm⟩ := hm
    obtain ⟨v1, i1, hm⟩ := hm
    have e0 := H.getP 0 rfl
    have e1 := H.getP 1 rfl
    simp (maxSteps := 4000000) -implicitDefEqProofs (disch := omega) only [push_cast, Nat.reduceAdd, Nat.reduceLeDiff, Nat.reduceMul, Nat.reduceSub, Nat.reduceLT, Nat.reduceEqDiff, Int.reduceAdd, Int.reduceSub, Int.reduceLE, Int.reduceLT, Int.reduceEq, Int.reduceNe, Int.reduceToNat, Int.reduceNeg, reduceIte, reduceCtorEq, eq_true c1, eq_true z1, i1, e0, e1]
    obtain ⟨k1, hm, hk1⟩ := wcut_elim hm
    refine awp_cut (fun s' => ∃ (a6 : Bool) (h5 : Hp), Like s'.tm ((((((((((List.replicate 43 none).set 0 (some (.isl 1 (a0_.map (encSl 1 AM.encStr))))).set 4 (some (.optr b1 2 0 0))).set 5 (some (.optr b2 2 0 0))).set 6 (some (aint a5))).set 7 (some (.isl 1 (v1.map AM.encStr)))).set 11 (some (.isl 1 (a1_.map (encSl 1 AM.encStr))))).set 12 (some (aint (a1_.length : Int)))).set 13 (some (aint a5))).set 30 (some (abool a6))) ∧ s'.h = h5 ∧ AM.Own h0 h5 [⟨(.optr b1 2 0 0), true, 2, [[(aint a1), x1]], some (24, 2)⟩, ⟨(.optr b2 2 0 0), true, 2, [[(aint a3), x2]], some (24, 2)⟩, ⟨x1, false, 2, a2.map ApiChange.enc, some (37, 0)⟩, ⟨x2, false, 2, a4.map ApiChange.enc, some (37, 0)⟩] ∧ k1 a6) ?_ ?_
    · have e0 := H.getP 0 rfl
      have e1 := H.getP 1 rfl
      simp (maxSteps := 4000000) -implicitDefEqProofs (disch := omega) only [push_cast, Nat.reduceAdd, Nat.reduceLeDiff, Nat.reduceMul, Nat.reduceSub, Nat.reduceLT, Nat.reduceEqDiff, Int.reduceAdd, Int.reduceSub, Int.reduceLE, Int.reduceLT, Int.reduceEq, Int.reduceNe, Int.reduceToNat, Int.reduceNeg, reduceIte, reduceCtorEq, eq_true c1, eq_true z1, i1, e0, e1]
      rw [gfork_cond']
      refine ⟨fun c2 => ?_, fun c2 => ?_⟩
      · replace hm := ifp hm c2
        have e0 := H.getP 0 rfl
        have e1 := H.getP 1 rfl
        simp (maxSteps := 4000000) -implicitDefEqProofs (disch := omega) only [push_cast, Nat.reduceAdd, Nat.reduceLeDiff, Nat.reduceMul, Nat.reduceSub, Nat.reduceLT, Nat.reduceEqDiff, Int.reduceAdd, Int.reduceSub, Int.reduceLE, Int.reduceLT, Int.reduceEq, Int.reduceNe, Int.reduceToNat, Int.reduceNeg, reduceIte, reduceCtorEq, eq_true c1, eq_true z1, i1, eq_true c2, e0, e1]
        replace H := H.perm [0, 1, 2, 3] (by decide)
        exact ⟨true, h4, by simp [Like, push_cast], rfl, H, hm⟩
      · replace hm := ifn hm c2
        obtain ⟨v2, i2, hm⟩ := hm
        have e0 := H.getP 0 rfl
        have e1 := H.getP 1 rfl
        simp (maxSteps := 4000000) -implicitDefEqProofs (disch := omega) only [push_cast, Nat.reduceAdd, Nat.reduceLeDiff, Nat.reduceMul, Nat.reduceSub, Nat.reduceLT, Nat.reduceEqDiff, Int.reduceAdd, Int.reduceSub, Int.reduceLE, Int.reduceLT, Int.reduceEq, Int.reduceNe, Int.reduceToNat, Int.reduceNeg, reduceIte, reduceCtorEq, eq_true c1, eq_true z1, i1, eq_false c2, i2, e0, e1]
        refine calls_w (fun h => slices_Equal_string_string.ok hm h) (fun r1 hm => ?_)
        have e0 := H.getP 0 rfl
        have e1 := H.getP 1 rfl
        simp (maxSteps := 4000000) -implicitDefEqProofs (disch := omega) only [push_cast, Nat.reduceAdd, Nat.reduceLeDiff, Nat.reduceMul, Nat.reduceSub, Nat.reduceLT, Nat.reduceEqDiff, Int.reduceAdd, Int.reduceSub, Int.reduceLE, Int.reduceLT, Int.reduceEq, Int.reduceNe, Int.reduceToNat, Int.reduceNeg, reduceIte, reduceCtorEq, eq_true c1, eq_true z1, i1, eq_false c2, i2, e0, e1]
        replace H := H.perm [0, 1, 2, 3] (by decide)
        exact ⟨!r1, h4, by simp [Like, push_cast], rfl, H, hm⟩
    · rintro ⟨tm, h5⟩ ⟨a6, _, hL, rfl, H, hm⟩
      dsimp only at hL H
      obtain ⟨D, rfl⟩ := hL.fill 0
      replace hm := hk1 _ hm
      have e0 := H.getP 0 rfl
      have e1 := H.getP 1 rfl
      simp (maxSteps := 4000000) -implicitDefEqProofs (disch := omega) only [push_cast, Nat.reduceAdd, Nat.reduceLeDiff, Nat.reduceMul, Nat.reduceSub, Nat.reduceLT, Nat.reduceEqDiff, Int.reduceAdd, Int.reduceSub, Int.reduceLE, Int.reduceLT, Int.reduceEq, Int.reduceNe, Int.reduceToNat, Int.reduceNeg, reduceIte, reduceCtorEq, eq_true c1, eq_true z1, i1, e0, e1]
      rw [fork_bool]
      refine ⟨fun c3 => ?_, fun c3 => ?_⟩
      · replace hm := ifp hm c3
        obtain ⟨w1, hm⟩ := hm
        have e0 := H.getP 0 rfl
        have e1 := H.getP 1 rfl
        simp (maxSteps := 4000000) -implicitDefEqProofs (disch := omega) only [push_cast, Nat.reduceAdd, Nat.reduceLeDiff, Nat.reduceMul, Nat.reduceSub, Nat.reduceLT, Nat.reduceEqDiff, Int.reduceAdd, Int.reduceSub, Int.reduceLE, Int.reduceLT, Int.reduceEq, Int.reduceNe, Int.reduceToNat, Int.reduceNeg, reduceIte, reduceCtorEq, eq_true c1, eq_true z1, i1, c3, wrap_i64 _ w1, e0, e1]
        obtain ⟨r2, g1, hm⟩ := hm
        refine pures_of _ (pure_of_back (fun h => slices_Clone_string_string.ok g1 h)) ?_
        have e0 := H.getP 0 rfl
        have e1 := H.getP 1 rfl
        simp (maxSteps := 4000000) -implicitDefEqProofs (disch := omega) only [push_cast, Nat.reduceAdd, Nat.reduceLeDiff, Nat.reduceMul, Nat.reduceSub, Nat.reduceLT, Nat.reduceEqDiff, Int.reduceAdd, Int.reduceSub, Int.reduceLE, Int.reduceLT, Int.reduceEq, Int.reduceNe, Int.reduceToNat, Int.reduceNeg, reduceIte, reduceCtorEq, eq_true c1, eq_true z1, i1, c3, wrap_i64 _ w1, e0, e1]
        refine H.newL (E := ApiChange.enc) ([(⟨a5 + 1, r2⟩ : ApiChange)] : List ApiChange) rfl rfl (fun b3 h6 H => ?_)
        have e0 := H.getP 0 rfl
        have e1 := H.getP 1 rfl
        simp (maxSteps := 4000000) -implicitDefEqProofs (disch := omega) only [push_cast, Nat.reduceAdd, Nat.reduceLeDiff, Nat.reduceMul, Nat.reduceSub, Nat.reduceLT, Nat.reduceEqDiff, Int.reduceAdd, Int.reduceSub, Int.reduceLE, Int.reduceLT, Int.reduceEq, Int.reduceNe, Int.reduceToNat, Int.reduceNeg, reduceIte, reduceCtorEq, eq_true c1, eq_true z1, i1, c3, wrap_i64 _ w1, H.src (e := 37) 4 rfl, e0, e1]
        obtain ⟨w2, hm⟩ := hm
        refine H.appL (E := ApiChange.enc) 3 ([(⟨a5 + 1, r2⟩ : ApiChange)] : List ApiChange) rfl rfl rfl (by decide) (by decide) w2 (fun x3 h7 H => ?_)
        have e0 := H.getP 0 rfl
        have e1 := H.getP 1 rfl
        simp (maxSteps := 4000000) -implicitDefEqProofs (disch := omega) only [push_cast, Nat.reduceAdd, Nat.reduceLeDiff, Nat.reduceMul, Nat.reduceSub, Nat.reduceLT, Nat.reduceEqDiff, Int.reduceAdd, Int.reduceSub, Int.reduceLE, Int.reduceLT, Int.reduceEq, Int.reduceNe, Int.reduceToNat, Int.reduceNeg, reduceIte, reduceCtorEq, eq_true c1, eq_true z1, i1, c3, wrap_i64 _ w1, e0, e1]
        refine H.stP 1 [(aint a3), x3] rfl (H.ok 3 rfl).1 (H.ok 3 rfl).2 rfl (Nat.le_of_ble_eq_true rfl) rfl (fun h8 H => ?_)
        obtain ⟨w3, hm⟩ := hm
        have e0 := H.getP 0 rfl
        have e1 := H.getP 1 rfl
        simp (maxSteps := 4000000) -implicitDefEqProofs (disch := omega) only [push_cast, Nat.reduceAdd, Nat.reduceLeDiff, Nat.reduceMul, Nat.reduceSub, Nat.reduceLT, Nat.reduceEqDiff, Int.reduceAdd, Int.reduceSub, Int.reduceLE, Int.reduceLT, Int.reduceEq, Int.reduceNe, Int.reduceToNat, Int.reduceNeg, reduceIte, reduceCtorEq, eq_true c1, eq_true z1, i1, c3, wrap_i64 _ w1, wrap_i64 _ w3, e0, e1]
        replace H := H.perm [0, 1, 2, 3] (by decide)
        exact ⟨⟨(a1, a2, a3, a4 ++ ([(⟨a5 + 1, r2⟩ : ApiChange)] : List ApiChange), a5 + 1), x1, x3, h8⟩, hm.2, ⟨hm.1, H⟩, Retell.weak (by simp [Weak, push_cast]) (Hp.sub.refl _)⟩
      · replace hm := ifn hm (by rw [c3]; exact Bool.false_ne_true)
        obtain ⟨w4, hm⟩ := hm
        have e0 := H.getP 0 rfl
        have e1 := H.getP 1 rfl
        simp (maxSteps := 4000000) -implicitDefEqProofs (disch := omega) only [push_cast, Nat.reduceAdd, Nat.reduceLeDiff, Nat.reduceMul, Nat.reduceSub, Nat.reduceLT, Nat.reduceEqDiff, Int.reduceAdd, Int.reduceSub, Int.reduceLE, Int.reduceLT, Int.reduceEq, Int.reduceNe, Int.reduceToNat, Int.reduceNeg, reduceIte, reduceCtorEq, eq_true c1, eq_true z1, i1, c3, wrap_i64 _ w4, e0, e1]
        replace H := H.perm [0, 1, 2, 3] (by decide)
        exact ⟨⟨(a1, a2, a3, a4, a5 + 1), x1, x2, h5⟩, hm.2, ⟨hm.1, H⟩, Retell.weak (by simp [Weak, push_cast]) (Hp.sub.refl _)⟩
  · replace hm := ifn hm c1
    have e0 := H.getP 0 rfl
    have e1 := H.getP 1 rfl
    simp (maxSteps := 4000000) -implicitDefEqProofs (disch := omega) only [push_cast, Nat.reduceAdd, Nat.reduceLeDiff, Nat.reduceMul, Nat.reduceSub, Nat.reduceLT, Nat.reduceEqDiff, Int.reduceAdd, Int.reduceSub, Int.reduceLE, Int.reduceLT, Int.reduceEq, Int.reduceNe, Int.reduceToNat, Int.reduceNeg, reduceIte, reduceCtorEq, eq_false c1, e0, e1]
    refine H.stP 0 [(aint a3), x2] rfl rfl rfl rfl (Nat.le_of_ble_eq_true rfl) rfl (fun h9 H => ?_)
    have e0 := H.getP 0 rfl
    have e1 := H.getP 1 rfl
    simp (maxSteps := 4000000) -implicitDefEqProofs (disch := omega) only [push_cast, Nat.reduceAdd, Nat.reduceLeDiff, Nat.reduceMul, Nat.reduceSub, Nat.reduceLT, Nat.reduceEqDiff, Int.reduceAdd, Int.reduceSub, Int.reduceLE, Int.reduceLT, Int.reduceEq, Int.reduceNe, Int.reduceToNat, Int.reduceNeg, reduceIte, reduceCtorEq, eq_false c1, e0, e1]
    have e0 := H.getP 0 rfl
    have e1 := H.getP 1 rfl
    obtain ⟨h10, s1, H⟩ := H.freeze 3 rfl
    exact retQ_back (.inl rfl) (⟨a3, a4⟩ : ApiPatch) (.agg [(aint a3), x2]) (by simp [aResults, resAll, resOne, push_cast, e0, e1]) (Shift.agg s1 [_] []) H.sub hm
/-! stylus/patch.right$1 -/
abbrev n_patch_right_1 : Nat := 23
noncomputable def code_patch_right_1 : Code := match Tryd.f23.body with | some c => c | none => .skip
def ann_patch_right_1 : Nat → Ann
  | _ => {}
noncomputable def ac_patch_right_1 : AC :=
  (.seq (.reg [⟨some 2, (Op.assign (Operand.const (Value.bool false))), none, false⟩]) (.seq (.reg [⟨some 3, (Op.move (Operand.tmp 0)), none, false⟩, ⟨some 4, (Op.call (Call.mk (Callee.value (Operand.func 24)) #[(Operand.tmp 3), (Operand.const (Value.string (ByteArray.mk #[10])))] #[9, 9])), none, false⟩, ⟨some 2, (Op.assign (Operand.tmp 4)), none, false⟩]) .ret))
theorem body_patch_right_1 : Tryd.f23.body = some code_patch_right_1 := by kernel_rfl
theorem slim_patch_right_1 : slim ann_patch_right_1 code_patch_right_1 = some ac_patch_right_1 := by kernel_rfl
theorem name_patch_right_1 : (Tryd.f23.name == "runtime.NumGoroutine") = false := by kernel_rfl
theorem enter_patch_right_1 {args : List AV} {h : Hp} {Q : AE → Hp → Prop} (H : awp Tryd.prog tab ac_patch_right_1 (retQ tab [(ResultVar.tmp 2)] Q) ⟨args ++ List.replicate (5 - args.length) .any, h⟩) : ACalls Tryd.prog 23 args h Q :=
  acalls_of tab_ok mixed Tryd.func23 body_patch_right_1 name_patch_right_1 slim_patch_right_1 rfl Tryd.ntmps23 H
/-- stylus/patch.right$1 -/
def patch_right_1.w (a0_ : ByteArray) (Q : Bool → Prop) : Prop :=
  strings_Contains.w a0_ (ByteArray.mk #[10]) (fun r1 =>
    Q r1)
theorem patch_right_1.ok {a0_ : ByteArray} {Q : Bool → Prop} (hm : patch_right_1.w a0_ Q) (h0 : Hp) : ACalls Tryd.prog n_patch_right_1 [(astr a0_)] h0 (Back h0 (fun r => (abool r)) Q) := by
  refine enter_patch_right_1 ?_
  unfold patch_right_1.w at hm
  have H := AM.Own.nil h0
  simp (maxSteps := 4000000) -implicitDefEqProofs (disch := omega) only [push_cast, Nat.reduceAdd, Nat.reduceLeDiff, Nat.reduceMul, Nat.reduceSub, Nat.reduceLT, Nat.reduceEqDiff, Int.reduceAdd, Int.reduceSub, Int.reduceLE, Int.reduceLT, Int.reduceEq, Int.reduceNe, Int.reduceToNat, Int.reduceNeg, reduceIte, reduceCtorEq, ac_patch_right_1]
  refine calls_w (fun h => strings_Contains.ok hm h) (fun r1 hm => ?_)
  simp (maxSteps := 4000000) -implicitDefEqProofs (disch := omega) only [push_cast, Nat.reduceAdd, Nat.reduceLeDiff, Nat.reduceMul, Nat.reduceSub, Nat.reduceLT, Nat.reduceEqDiff, Int.reduceAdd, Int.reduceSub, Int.reduceLE, Int.reduceLT, Int.reduceEq, Int.reduceNe, Int.reduceToNat, Int.reduceNeg, reduceIte, reduceCtorEq]
  exact retQ_back (.inl rfl) r1 _ rfl (Shift.refl _ _) H.sub hm
/-! slices.IndexFunc[[]string,string] -/
abbrev n_slices_IndexFunc_string_string : Nat := 32
noncomputable def code_slices_IndexFunc_string_string : Code := match Tryd.f32.body with | some c => c | none => .skip
def ann_slices_IndexFunc_string_string : Nat → Ann
  | _ => {}
noncomputable def ac_slices_IndexFunc_string_string : AC :=
  (.seq (.reg [⟨some 4, (Op.assign (Operand.const (Value.int IntKind.i64 0))), none, false⟩]) (.seq (.seq (.reg [⟨some 6, (Op.move (Operand.tmp 0)), none, false⟩, ⟨some 7, (Op.call (Call.mk (Callee.builtin Builtin.len) #[(Operand.tmp 6)] #[35])), none, false⟩, ⟨some 8, (Op.move (Operand.const (Value.int IntKind.i64 0))), none, false⟩]) (.block 0 (.loop (.seq (.reg [⟨some 9, (Op.binOp BinOp.lss 3 (Operand.tmp 8) (Operand.tmp 7) 3), none, false⟩]) (.seq (.cond (Operand.tmp 9) .skip (.exit 0)) (.seq (.block 1 (.seq (.reg [⟨some 10, (Op.move (Operand.tmp 8)), none, false⟩, ⟨some 5, (Op.assign (Operand.tmp 10)), none, false⟩]) (.seq (.reg [⟨some 11, (Op.move (Operand.tmp 1)), none, false⟩, ⟨some 12, (Op.move (Operand.tmp 0)), none, false⟩, ⟨some 13, (Op.move (Operand.tmp 5)), none, false⟩, ⟨some 14, (Op.indexAddr 35 (Operand.tmp 12) (Operand.tmp 13)), none, false⟩, ⟨some 15, (Op.load 9 (Operand.tmp 14)), none, false⟩, ⟨some 16, (Op.call (Call.mk (Callee.value (Operand.tmp 11)) #[(Operand.tmp 15)] #[9])), none, false⟩]) (.cond (Operand.tmp 16) (.seq (.reg [⟨some 17, (Op.move (Operand.tmp 5)), none, false⟩, ⟨some 4, (Op.assign (Operand.tmp 17)), none, false⟩]) .ret) .skip)))) (.reg [⟨some 18, (Op.binOp BinOp.add 3 (Operand.tmp 8) (Operand.const (Value.int IntKind.i64 1)) 3), none, false⟩, ⟨some 8, (Op.move (Operand.tmp 18)), none, false⟩]))))))) (.seq (.reg [⟨some 4, (Op.assign (Operand.const (Value.int IntKind.i64 (-1)))), none, false⟩]) .ret)))
theorem body_slices_IndexFunc_string_string : Tryd.f32.body = some code_slices_IndexFunc_string_string := by kernel_rfl
theorem slim_slices_IndexFunc_string_string : slim ann_slices_IndexFunc_string_string code_slices_IndexFunc_string_string = some ac_slices_IndexFunc_string_string := by kernel_rfl
theorem name_slices_IndexFunc_string_string : (Tryd.f32.name == "runtime.NumGoroutine") = false := by kernel_rfl
theorem enter_slices_IndexFunc_string_string {args : List AV} {h : Hp} {Q : AE → Hp → Prop} (H : awp Tryd.prog tab ac_slices_IndexFunc_string_string (retQ tab [(ResultVar.tmp 4)] Q) ⟨args ++ List.replicate (19 - args.length) .any, h⟩) : ACalls Tryd.prog 32 args h Q :=
  acalls_of tab_ok mixed Tryd.func32 body_slices_IndexFunc_string_string name_slices_IndexFunc_string_string slim_slices_IndexFunc_string_string rfl Tryd.ntmps32 H
/-- slices.IndexFunc[[]string,string], with what it is handed -/
def slices_IndexFunc_string_string_i0.w (a0_ : List ByteArray) (Q : Int → Prop) : Prop :=
  wloop (σ := Int) (fun a1 next1 =>
    if a1 < (a0_.length : Int) then
      (0 ≤ a1) ∧
      ∃ v1 : ByteArray, a0_[a1.toNat]? = some v1 ∧
      patch_right_1.w v1 (fun r1 =>
        if r1 = true then
          Q a1
        else
          (I64 (a1 + 1)) ∧
          next1 (a1 + 1))
    else
      Q (-1)) 0
theorem slices_IndexFunc_string_string_i0.ok {a0_ : List ByteArray} {Q : Int → Prop} (hm : slices_IndexFunc_string_string_i0.w a0_ Q) (h0 : Hp) : ACalls Tryd.prog n_slices_IndexFunc_string_string [(.isl 1 (a0_.map AM.encStr)), (.fn (.func 23) [] [])] h0 (Back h0 (fun r => (aint r)) Q) := by
  refine enter_slices_IndexFunc_string_string ?_
  unfold slices_IndexFunc_string_string_i0.w at hm
  have H := AM.Own.nil h0
  simp (maxSteps := 4000000) -implicitDefEqProofs (disch := omega) only [push_cast, Nat.reduceAdd, Nat.reduceLeDiff, Nat.reduceMul, Nat.reduceSub, Nat.reduceLT, Nat.reduceEqDiff, Int.reduceAdd, Int.reduceSub, Int.reduceLE, Int.reduceLT, Int.reduceEq, Int.reduceNe, Int.reduceToNat, Int.reduceNeg, reduceIte, reduceCtorEq, ac_slices_IndexFunc_string_string]
  obtain ⟨inv1, mu1, hi1, hs1⟩ := hm
  replace H := H.perm [] (by decide)
  refine awp_loop (σ := Int × Hp) (fun ⟨a1, h1⟩ => ⟨((((List.replicate 19 AV.any).set 0 (.isl 1 (a0_.map AM.encStr))).set 1 (.fn (.func 23) [] [])).set 7 (aint (a0_.length : Int))).set 8 (aint a1), h1⟩) (fun ⟨a1, h1⟩ => inv1 a1 ∧ AM.Own h0 h1 []) (fun ⟨a1, h1⟩ => mu1 a1) ⟨0, h0⟩ (Retell.weak (by simp [Weak, push_cast]) (Hp.sub.refl _)) ⟨hi1, H⟩ ?_
  rintro ⟨a1, h1⟩ ⟨hi1, H⟩
  have hm := hs1 _ hi1
  dsimp only at hm H ⊢
  simp (maxSteps := 4000000) -implicitDefEqProofs (disch := omega) only [push_cast, Nat.reduceAdd, Nat.reduceLeDiff, Nat.reduceMul, Nat.reduceSub, Nat.reduceLT, Nat.reduceEqDiff, Int.reduceAdd, Int.reduceSub, Int.reduceLE, Int.reduceLT, Int.reduceEq, Int.reduceNe, Int.reduceToNat, Int.reduceNeg, reduceIte, reduceCtorEq]
  rw [fork_cond]
  refine ⟨fun c1 => ?_, fun c1 => ?_⟩
  · replace hm := ifp hm c1
    obtain ⟨z1, hm⟩ := hm
    obtain ⟨v1, i1, hm⟩ := hm
    simp (maxSteps := 4000000) -implicitDefEqProofs (disch := omega) only [push_cast, Nat.reduceAdd, Nat.reduceLeDiff, Nat.reduceMul, Nat.reduceSub, Nat.reduceLT, Nat.reduceEqDiff, Int.reduceAdd, Int.reduceSub, Int.reduceLE, Int.reduceLT, Int.reduceEq, Int.reduceNe, Int.reduceToNat, Int.reduceNeg, reduceIte, reduceCtorEq, eq_true c1, eq_true z1, i1]
    refine calls_w (fun h => patch_right_1.ok hm h) (fun r1 hm => ?_)
    simp (maxSteps := 4000000) -implicitDefEqProofs (disch := omega) only [push_cast, Nat.reduceAdd, Nat.reduceLeDiff, Nat.reduceMul, Nat.reduceSub, Nat.reduceLT, Nat.reduceEqDiff, Int.reduceAdd, Int.reduceSub, Int.reduceLE, Int.reduceLT, Int.reduceEq, Int.reduceNe, Int.reduceToNat, Int.reduceNeg, reduceIte, reduceCtorEq, eq_true c1, eq_true z1, i1]
    rw [fork_bool]
    refine ⟨fun c2 => ?_, fun c2 => ?_⟩
    · replace hm := ifp hm c2
      simp (maxSteps := 4000000) -implicitDefEqProofs (disch := omega) only [push_cast, Nat.reduceAdd, Nat.reduceLeDiff, Nat.reduceMul, Nat.reduceSub, Nat.reduceLT, Nat.reduceEqDiff, Int.reduceAdd, Int.reduceSub, Int.reduceLE, Int.reduceLT, Int.reduceEq, Int.reduceNe, Int.reduceToNat, Int.reduceNeg, reduceIte, reduceCtorEq, eq_true c1, eq_true z1, i1, c2]
      exact retQ_back (.inl rfl) a1 _ rfl (Shift.refl _ _) H.sub hm
    · replace hm := ifn hm (by rw [c2]; exact Bool.false_ne_true)
      obtain ⟨w1, hm⟩ := hm
      simp (maxSteps := 4000000) -implicitDefEqProofs (disch := omega) only [push_cast, Nat.reduceAdd, Nat.reduceLeDiff, Nat.reduceMul, Nat.reduceSub, Nat.reduceLT, Nat.reduceEqDiff, Int.reduceAdd, Int.reduceSub, Int.reduceLE, Int.reduceLT, Int.reduceEq, Int.reduceNe, Int.reduceToNat, Int.reduceNeg, reduceIte, reduceCtorEq, eq_true c1, eq_true z1, i1, c2, wrap_i64 _ w1]
      replace H := H.perm [] (by decide)
      exact ⟨⟨a1 + 1, h1⟩, hm.2, ⟨hm.1, H⟩, Retell.weak (by simp [Weak, push_cast]) (Hp.sub.refl _)⟩
  · replace hm := ifn hm c1
    simp (maxSteps := 4000000) -implicitDefEqProofs (disch := omega) only [push_cast, Nat.reduceAdd, Nat.reduceLeDiff, Nat.reduceMul, Nat.reduceSub, Nat.reduceLT, Nat.reduceEqDiff, Int.reduceAdd, Int.reduceSub, Int.reduceLE, Int.reduceLT, Int.reduceEq, Int.reduceNe, Int.reduceToNat, Int.reduceNeg, reduceIte, reduceCtorEq, eq_false c1]
    exact retQ_back (.inl rfl) (-1) _ rfl (Shift.refl _ _) H.sub hm
/-! slices.ContainsFunc[[]string,string] -/
abbrev n_slices_ContainsFunc_string_string : Nat := 25
noncomputable def code_slices_ContainsFunc_string_string : Code := match Tryd.f25.body with | some c => c | none => .skip
def ann_slices_ContainsFunc_string_string : Nat → Ann
  | _ => {}
noncomputable def ac_slices_ContainsFunc_string_string : AC :=
  (.seq (.reg [⟨some 4, (Op.assign (Operand.const (Value.bool false))), none, false⟩]) (.seq (.reg [⟨some 5, (Op.move (Operand.tmp 0)), none, false⟩, ⟨some 6, (Op.move (Operand.tmp 1)), none, false⟩, ⟨some 7, (Op.call (Call.mk (Callee.value (Operand.func 32)) #[(Operand.tmp 5), (Operand.tmp 6)] #[35, 66])), none, false⟩, ⟨some 8, (Op.binOp BinOp.geq 3 (Operand.tmp 7) (Operand.const (Value.int IntKind.i64 0)) 3), none, false⟩, ⟨some 4, (Op.assign (Operand.tmp 8)), none, false⟩]) .ret))
theorem body_slices_ContainsFunc_string_string : Tryd.f25.body = some code_slices_ContainsFunc_string_string := by kernel_rfl
theorem slim_slices_ContainsFunc_string_string : slim ann_slices_ContainsFunc_string_string code_slices_ContainsFunc_string_string = some ac_slices_ContainsFunc_string_string := by kernel_rfl
theorem name_slices_ContainsFunc_string_string : (Tryd.f25.name == "runtime.NumGoroutine") = false := by kernel_rfl
theorem enter_slices_ContainsFunc_string_string {args : List AV} {h : Hp} {Q : AE → Hp → Prop} (H : awp Tryd.prog tab ac_slices_ContainsFunc_string_string (retQ tab [(ResultVar.tmp 4)] Q) ⟨args ++ List.replicate (9 - args.length) .any, h⟩) : ACalls Tryd.prog 25 args h Q :=
  acalls_of tab_ok mixed Tryd.func25 body_slices_ContainsFunc_string_string name_slices_ContainsFunc_string_string slim_slices_ContainsFunc_string_string rfl Tryd.ntmps25 H
/-- slices.ContainsFunc[[]string,string], with what it is handed -/
def slices_ContainsFunc_string_string_i0.w (a0_ : List ByteArray) (Q : Bool → Prop) : Prop :=
  slices_IndexFunc_string_string_i0.w a0_ (fun r1 =>
    Q (decide (0 ≤ r1)))
theorem slices_ContainsFunc_string_string_i0.ok {a0_ : List ByteArray} {Q : Bool → Prop} (hm : slices_ContainsFunc_string_string_i0.w a0_ Q) (h0 : Hp) : ACalls Tryd.prog n_slices_ContainsFunc_string_string [(.isl 1 (a0_.map AM.encStr)), (.fn (.func 23) [] [])] h0 (Back h0 (fun r => (abool r)) Q) := by
  refine enter_slices_ContainsFunc_string_string ?_
  unfold slices_ContainsFunc_string_string_i0.w at hm
  have H := AM.Own.nil h0
  simp (maxSteps := 4000000) -implicitDefEqProofs (disch := omega) only [push_cast, Nat.reduceAdd, Nat.reduceLeDiff, Nat.reduceMul, Nat.reduceSub, Nat.reduceLT, Nat.reduceEqDiff, Int.reduceAdd, Int.reduceSub, Int.reduceLE, Int.reduceLT, Int.reduceEq, Int.reduceNe, Int.reduceToNat, Int.reduceNeg, reduceIte, reduceCtorEq, ac_slices_ContainsFunc_string_string]
  refine calls_w (fun h => slices_IndexFunc_string_string_i0.ok hm h) (fun r1 hm => ?_)
  simp (maxSteps := 4000000) -implicitDefEqProofs (disch := omega) only [push_cast, Nat.reduceAdd, Nat.reduceLeDiff, Nat.reduceMul, Nat.reduceSub, Nat.reduceLT, Nat.reduceEqDiff, Int.reduceAdd, Int.reduceSub, Int.reduceLE, Int.reduceLT, Int.reduceEq, Int.reduceNe, Int.reduceToNat, Int.reduceNeg, reduceIte, reduceCtorEq]
  exact retQ_back (.inl rfl) (decide (0 ≤ r1)) _ rfl (Shift.refl _ _) H.sub hm
/-! stylus/patch.right -/
abbrev n_patch_right : Nat := 13
noncomputable def code_patch_right : Code := match Tryd.f13.body with | some c => c | none => .skip
def ann_patch_right : Nat → Ann
  | _ => {}
noncomputable def ac_patch_right : AC :=
  (.seq (.reg [⟨some 1, (Op.box 24 (Operand.tmp 0)), none, false⟩, ⟨some 2, (Op.assign (Operand.const (Value.bool false))), none, false⟩]) (.seq (.reg [⟨some 3, (Op.assign (Operand.const (Value.int IntKind.i64 0))), none, false⟩]) (.seq (.seq (.reg [⟨some 7, (Op.fieldAddr 24 (Operand.tmp 1) 1), none, false⟩, ⟨some 8, (Op.load 22 (Operand.tmp 7)), none, false⟩, ⟨some 9, (Op.call (Call.mk (Callee.builtin Builtin.len) #[(Operand.tmp 8)] #[22])), none, false⟩, ⟨some 10, (Op.move (Operand.const (Value.int IntKind.i64 0))), none, false⟩]) (.block 0 (.loop (.seq (.reg [⟨some 11, (Op.binOp BinOp.lss 3 (Operand.tmp 10) (Operand.tmp 9) 3), none, false⟩]) (.seq (.cond (Operand.tmp 11) .skip (.exit 0)) (.seq (.block 1 (.seq (.reg [⟨some 12, (Op.indexAddr 22 (Operand.tmp 8) (Operand.tmp 10)), none, false⟩, ⟨some 13, (Op.load 37 (Operand.tmp 12)), none, false⟩, ⟨some 5, (Op.alloc 37), none, false⟩, ⟨none, (Op.store 37 (Operand.tmp 5) (Operand.tmp 13)), none, false⟩]) (.seq (.reg [⟨some 6, (Op.assign (Operand.func 23)), none, false⟩]) (.seq (.seq (.reg [⟨some 14, (Op.fieldAddr 37 (Operand.tmp 5) 0), none, false⟩, ⟨some 15, (Op.load 3 (Operand.tmp 14)), none, false⟩, ⟨some 16, (Op.move (Operand.tmp 3)), none, false⟩, ⟨some 17, (Op.binOp BinOp.leq 3 (Operand.tmp 15) (Operand.tmp 16) 3), none, false⟩, ⟨some 18, (Op.move (Operand.tmp 17)), none, false⟩, ⟨some 19, (Op.fieldAddr 37 (Operand.tmp 5) 0), (some (some 18, false)), false⟩, ⟨some 20, (Op.load 3 (Operand.tmp 19)), (some (some 18, false)), false⟩, ⟨some 21, (Op.fieldAddr 24 (Operand.tmp 1) 0), (some (some 18, false)), false⟩, ⟨some 22, (Op.load 3 (Operand.tmp 21)), (some (some 18, false)), false⟩, ⟨some 23, (Op.binOp BinOp.gtr 3 (Operand.tmp 20) (Operand.tmp 22) 3), (some (some 18, false)), false⟩, ⟨some 24, (Op.pick (Operand.tmp 18) (Operand.const (Value.bool true)) (Operand.tmp 23)), none, false⟩, ⟨some 25, (Op.move (Operand.tmp 24)), none, false⟩, ⟨some 26, (Op.fieldAddr 37 (Operand.tmp 5) 1), (some (some 25, false)), false⟩, ⟨some 27, (Op.load 35 (Operand.tmp 26)), (some (some 25, false)), false⟩, ⟨some 28, (Op.call (Call.mk (Callee.builtin Builtin.len) #[(Operand.tmp 27)] #[35])), (some (some 25, false)), false⟩, ⟨some 29, (Op.binOp BinOp.gtr 3 (Operand.tmp 28) (Operand.const (Value.int IntKind.i64 999999999)) 3), (some (some 25, false)), false⟩, ⟨some 30, (Op.pick (Operand.tmp 25) (Operand.const (Value.bool true)) (Operand.tmp 29)), none, false⟩, ⟨some 31, (Op.move (Operand.tmp 30)), none, false⟩, ⟨some 32, (Op.fieldAddr 37 (Operand.tmp 5) 1), (some (some 31, false)), false⟩, ⟨some 33, (Op.load 35 (Operand.tmp 32)), (some (some 31, false)), false⟩, ⟨some 34, (Op.move (Operand.tmp 6)), (some (some 31, false)), false⟩, ⟨some 35, (Op.call (Call.mk (Callee.value (Operand.func 25)) #[(Operand.tmp 33), (Operand.tmp 34)] #[35, 66])), (some (some 31, false)), false⟩, ⟨some 36, (Op.pick (Operand.tmp 31) (Operand.const (Value.bool true)) (Operand.tmp 35)), none, false⟩]) (.cond (Operand.tmp 36) (.seq (.reg [⟨some 2, (Op.assign (Operand.const (Value.bool false))), none, false⟩]) .ret) .skip)) (.reg [⟨some 37, (Op.fieldAddr 37 (Operand.tmp 5) 0), none, false⟩, ⟨some 38, (Op.load 3 (Operand.tmp 37)), none, false⟩, ⟨some 3, (Op.assign (Operand.tmp 38)), none, false⟩]))))) (.reg [⟨some 39, (Op.binOp BinOp.add 3 (Operand.tmp 10) (Operand.const (Value.int IntKind.i64 1)) 3), none, false⟩, ⟨some 10, (Op.move (Operand.tmp 39)), none, false⟩]))))))) (.seq (.reg [⟨some 40, (Op.fieldAddr 24 (Operand.tmp 1) 0), none, false⟩, ⟨some 41, (Op.load 3 (Operand.tmp 40)), none, false⟩, ⟨some 42, (Op.binOp BinOp.geq 3 (Operand.tmp 41) (Operand.const (Value.int IntKind.i64 0)) 3), none, false⟩, ⟨some 43, (Op.move (Operand.tmp 42)), none, false⟩, ⟨some 44, (Op.fieldAddr 24 (Operand.tmp 1) 0), (some (some 43, true)), false⟩, ⟨some 45, (Op.load 3 (Operand.tmp 44)), (some (some 43, true)), false⟩, ⟨some 46, (Op.binOp BinOp.leq 3 (Operand.tmp 45) (Operand.const (Value.int IntKind.i64 999999999)) 3), (some (some 43, true)), false⟩, ⟨some 47, (Op.pick (Operand.tmp 43) (Operand.tmp 46) (Operand.const (Value.bool false))), none, false⟩, ⟨some 2, (Op.assign (Operand.tmp 47)), none, false⟩]) .ret))))
theorem body_patch_right : Tryd.f13.body = some code_patch_right := by kernel_rfl
theorem slim_patch_right : slim ann_patch_right code_patch_right = some ac_patch_right := by kernel_rfl
theorem name_patch_right : (Tryd.f13.name == "runtime.NumGoroutine") = false := by kernel_rfl
theorem enter_patch_right {args : List AV} {h : Hp} {Q : AE → Hp → Prop} (H : awp Tryd.prog tab ac_patch_right (retQ tab [(ResultVar.tmp 2)] Q) ⟨args ++ List.replicate (48 - args.length) .any, h⟩) : ACalls Tryd.prog 13 args h Q :=
  acalls_of tab_ok mixed Tryd.func13 body_patch_right name_patch_right slim_patch_right rfl Tryd.ntmps13 H
/-- stylus/patch.right -/
def patch_right.w (a0_ : ApiPatch) (Q : Bool → Prop) : Prop :=
  wloop (σ := Int × Int) (fun ⟨a1, a2⟩ next1 =>
    if a2 < (a0_.Changes.length : Int) then
      (0 ≤ a2) ∧
      ∃ v1 : ApiChange, a0_.Changes[a2.toNat]? = some v1 ∧
      if v1.Page ≤ a1 then
        Q false
      else
        if a0_.Pages < v1.Page then
          Q false
        else
          if 999999999 < (v1.Lines.length : Int) then
            Q false
          else
            slices_ContainsFunc_string_string_i0.w v1.Lines (fun r1 =>
              if r1 = true then
                Q false
              else
                (I64 (a2 + 1)) ∧
                next1 (v1.Page, a2 + 1))
    else
      if 0 ≤ a0_.Pages then
        Q (decide (a0_.Pages ≤ 999999999))
      else
        Q false) (0, 0)
theorem patch_right.ok {a0_ : ApiPatch} {Q : Bool → Prop} (hm : patch_right.w a0_ Q) (h0 : Hp) : ACalls Tryd.prog n_patch_right [(.agg (ApiPatch.enc a0_))] h0 (Back h0 (fun r => (abool r)) Q) := by
  refine enter_patch_right ?_
  unfold patch_right.w at hm
  have H := AM.Own.nil h0
  simp (maxSteps := 4000000) -implicitDefEqProofs (disch := omega) only [push_cast, Nat.reduceAdd, Nat.reduceLeDiff, Nat.reduceMul, Nat.reduceSub, Nat.reduceLT, Nat.reduceEqDiff, Int.reduceAdd, Int.reduceSub, Int.reduceLE, Int.reduceLT, Int.reduceEq, Int.reduceNe, Int.reduceToNat, Int.reduceNeg, reduceIte, reduceCtorEq, ac_patch_right]
  refine H.newR (ApiPatch.enc a0_) rfl (fun b1 h1 H => ?_)
  have e0 := H.getP 0 rfl
  simp (maxSteps := 4000000) -implicitDefEqProofs (disch := omega) only [push_cast, Nat.reduceAdd, Nat.reduceLeDiff, Nat.reduceMul, Nat.reduceSub, Nat.reduceLT, Nat.reduceEqDiff, Int.reduceAdd, Int.reduceSub, Int.reduceLE, Int.reduceLT, Int.reduceEq, Int.reduceNe, Int.reduceToNat, Int.reduceNeg, reduceIte, reduceCtorEq, e0]
  obtain ⟨inv1, mu1, hi1, hs1⟩ := hm
  replace H := H.perm [0] (by decide)
  refine awp_loop (σ := (Int × Int) × Hp) (fun ⟨⟨a1, a2⟩, h2⟩ => ⟨(((((List.replicate 48 AV.any).set 1 (.optr b1 2 0 0)).set 3 (aint a1)).set 8 (.isl 2 (a0_.Changes.map ApiChange.enc))).set 9 (aint (a0_.Changes.length : Int))).set 10 (aint a2), h2⟩) (fun ⟨⟨a1, a2⟩, h2⟩ => inv1 (a1, a2) ∧ AM.Own h0 h2 [⟨(.optr b1 2 0 0), true, 2, [(ApiPatch.enc a0_)], some (24, 2)⟩]) (fun ⟨⟨a1, a2⟩, h2⟩ => mu1 (a1, a2)) ⟨(0, 0), h1⟩ (Retell.weak (by simp [Weak, push_cast]) (Hp.sub.refl _)) ⟨hi1, H⟩ ?_
  rintro ⟨⟨a1, a2⟩, h2⟩ ⟨hi1, H⟩
  have hm := hs1 _ hi1
  dsimp only at hm H ⊢
  have e0 := H.getP 0 rfl
  simp (maxSteps := 4000000) -implicitDefEqProofs (disch := omega) only [push_cast, Nat.reduceAdd, Nat.reduceLeDiff, Nat.reduceMul, Nat.reduceSub, Nat.reduceLT, Nat.reduceEqDiff, Int.reduceAdd, Int.reduceSub, Int.reduceLE, Int.reduceLT, Int.reduceEq, Int.reduceNe, Int.reduceToNat, Int.reduceNeg, reduceIte, reduceCtorEq, e0]
  rw [fork_cond]
  refine ⟨fun c1 => ?_, fun c1 => ?_⟩
  · replace hm := ifp hm c1
    obtain ⟨z1, hm⟩ := hm
    obtain ⟨v1, i1, hm⟩ := hm
    have e0 := H.getP 0 rfl
    simp (maxSteps := 4000000) -implicitDefEqProofs (disch := omega) only [push_cast, Nat.reduceAdd, Nat.reduceLeDiff, Nat.reduceMul, Nat.reduceSub, Nat.reduceLT, Nat.reduceEqDiff, Int.reduceAdd, Int.reduceSub, Int.reduceLE, Int.reduceLT, Int.reduceEq, Int.reduceNe, Int.reduceToNat, Int.reduceNeg, reduceIte, reduceCtorEq, eq_true c1, eq_true z1, i1, e0]
    refine H.newR [(aint 0), anil] rfl (fun b2 h3 H => ?_)
    have e0 := H.getP 0 rfl
    have e1 := H.getP 1 rfl
    simp (maxSteps := 4000000) -implicitDefEqProofs (disch := omega) only [push_cast, Nat.reduceAdd, Nat.reduceLeDiff, Nat.reduceMul, Nat.reduceSub, Nat.reduceLT, Nat.reduceEqDiff, Int.reduceAdd, Int.reduceSub, Int.reduceLE, Int.reduceLT, Int.reduceEq, Int.reduceNe, Int.reduceToNat, Int.reduceNeg, reduceIte, reduceCtorEq, eq_true c1, eq_true z1, i1, e0, e1]
    refine H.stP 1 (ApiChange.enc v1) rfl rfl rfl rfl (Nat.le_of_ble_eq_true rfl) rfl (fun h4 H => ?_)
    have e0 := H.getP 0 rfl
    have e1 := H.getP 1 rfl
    simp (maxSteps := 4000000) -implicitDefEqProofs (disch := omega) only [push_cast, Nat.reduceAdd, Nat.reduceLeDiff, Nat.reduceMul, Nat.reduceSub, Nat.reduceLT, Nat.reduceEqDiff, Int.reduceAdd, Int.reduceSub, Int.reduceLE, Int.reduceLT, Int.reduceEq, Int.reduceNe, Int.reduceToNat, Int.reduceNeg, reduceIte, reduceCtorEq, eq_true c1, eq_true z1, i1, e0, e1]
    rw [gfork_cond']
    refine ⟨fun c2 => ?_, fun c2 => ?_⟩
    · replace hm := ifp hm c2
      have e0 := H.getP 0 rfl
      have e1 := H.getP 1 rfl
      simp (maxSteps := 4000000) -implicitDefEqProofs (disch := omega) only [push_cast, Nat.reduceAdd, Nat.reduceLeDiff, Nat.reduceMul, Nat.reduceSub, Nat.reduceLT, Nat.reduceEqDiff, Int.reduceAdd, Int.reduceSub, Int.reduceLE, Int.reduceLT, Int.reduceEq, Int.reduceNe, Int.reduceToNat, Int.reduceNeg, reduceIte, reduceCtorEq, eq_true c1, eq_true z1, i1, eq_true c2, e0, e1]
      exact retQ_back (.inl rfl) false _ rfl (Shift.refl _ _) H.sub hm
    · replace hm := ifn hm c2
      have e0 := H.getP 0 rfl
      have e1 := H.getP 1 rfl
      simp (maxSteps := 4000000) -implicitDefEqProofs (disch := omega) only [push_cast, Nat.reduceAdd, Nat.reduceLeDiff, Nat.reduceMul, Nat.reduceSub, Nat.reduceLT, Nat.reduceEqDiff, Int.reduceAdd, Int.reduceSub, Int.reduceLE, Int.reduceLT, Int.reduceEq, Int.reduceNe, Int.reduceToNat, Int.reduceNeg, reduceIte, reduceCtorEq, eq_true c1, eq_true z1, i1, eq_false c2, e0, e1]
      rw [gfork_cond']
      refine ⟨fun c3 => ?_, fun c3 => ?_⟩
      · replace hm := ifp hm c3
        have e0 := H.getP 0 rfl
        have e1 := H.getP 1 rfl
        simp (maxSteps := 4000000) -implicitDefEqProofs (disch := omega) only [push_cast, Nat.reduceAdd, Nat.reduceLeDiff, Nat.reduceMul, Nat.reduceSub, Nat.reduceLT, Nat.reduceEqDiff, Int.reduceAdd, Int.reduceSub, Int.reduceLE, Int.reduceLT, Int.reduceEq, Int.reduceNe, Int.reduceToNat, Int.reduceNeg, reduceIte, reduceCtorEq, eq_true c1, eq_true z1, i1, eq_false c2, eq_true c3, e0, e1]
        exact retQ_back (.inl rfl) false _ rfl (Shift.refl _ _) H.sub hm
      · replace hm := ifn hm c3
        have e0 := H.getP 0 rfl
        have e1 := H.getP 1 rfl
        simp (maxSteps := 4000000) -implicitDefEqProofs (disch := omega) only [push_cast, Nat.reduceAdd, Nat.reduceLeDiff, Nat.reduceMul, Nat.reduceSub, Nat.reduceLT, Nat.reduceEqDiff, Int.reduceAdd, Int.reduceSub, Int.reduceLE, Int.reduceLT, Int.reduceEq, Int.reduceNe, Int.reduceToNat, Int.reduceNeg, reduceIte, reduceCtorEq, eq_true c1, eq_true z1, i1, eq_false c2, eq_false c3, e0, e1]
        rw [gfork_cond']
        refine ⟨fun c4 => ?_, fun c4 => ?_⟩
        · replace hm := ifp hm c4
          have e0 := H.getP 0 rfl
          have e1 := H.getP 1 rfl
          simp (maxSteps := 4000000) -implicitDefEqProofs (disch := omega) only [push_cast, Nat.reduceAdd, Nat.reduceLeDiff, Nat.reduceMul, Nat.reduceSub, Nat.reduceLT, Nat.reduceEqDiff, Int.reduceAdd, Int.reduceSub, Int.reduceLE, Int.reduceLT, Int.reduceEq, Int.reduceNe, Int.reduceToNat, Int.reduceNeg, reduceIte, reduceCtorEq, eq_true c1, eq_true z1, i1, eq_false c2, eq_false c3, eq_true c4, e0, e1]
          exact retQ_back (.inl rfl) false _ rfl (Shift.refl _ _) H.sub hm
        · replace hm := ifn hm c4
          have e0 := H.getP 0 rfl
          have e1 := H.getP 1 rfl
          simp (maxSteps := 4000000) -implicitDefEqProofs (disch := omega) only [push_cast, Nat.reduceAdd, Nat.reduceLeDiff, Nat.reduceMul, Nat.reduceSub, Nat.reduceLT, Nat.reduceEqDiff, Int.reduceAdd, Int.reduceSub, Int.reduceLE, Int.reduceLT, Int.reduceEq, Int.reduceNe, Int.reduceToNat, Int.reduceNeg, reduceIte, reduceCtorEq, eq_true c1, eq_true z1, i1, eq_false c2, eq_false c3, eq_false c4, e0, e1]
          refine calls_w (fun h => slices_ContainsFunc_string_string_i0.ok hm h) (fun r1 hm => ?_)
          have e0 := H.getP 0 rfl
          have e1 := H.getP 1 rfl
          simp (maxSteps := 4000000) -implicitDefEqProofs (disch := omega) only [push_cast, Nat.reduceAdd, Nat.reduceLeDiff, Nat.reduceMul, Nat.reduceSub, Nat.reduceLT, Nat.reduceEqDiff, Int.reduceAdd, Int.reduceSub, Int.reduceLE, Int.reduceLT, Int.reduceEq, Int.reduceNe, Int.reduceToNat, Int.reduceNeg, reduceIte, reduceCtorEq, eq_true c1, eq_true z1, i1, eq_false c2, eq_false c3, eq_false c4, e0, e1]
          rw [fork_bool]
          refine ⟨fun c5 => ?_, fun c5 => ?_⟩
          · replace hm := ifp hm c5
            have e0 := H.getP 0 rfl
            have e1 := H.getP 1 rfl
            simp (maxSteps := 4000000) -implicitDefEqProofs (disch := omega) only [push_cast, Nat.reduceAdd, Nat.reduceLeDiff, Nat.reduceMul, Nat.reduceSub, Nat.reduceLT, Nat.reduceEqDiff, Int.reduceAdd, Int.reduceSub, Int.reduceLE, Int.reduceLT, Int.reduceEq, Int.reduceNe, Int.reduceToNat, Int.reduceNeg, reduceIte, reduceCtorEq, eq_true c1, eq_true z1, i1, eq_false c2, eq_false c3, eq_false c4, c5, e0, e1]
            exact retQ_back (.inl rfl) false _ rfl (Shift.refl _ _) H.sub hm
          · replace hm := ifn hm (by rw [c5]; exact Bool.false_ne_true)
            obtain ⟨w1, hm⟩ := hm
            have e0 := H.getP 0 rfl
            have e1 := H.getP 1 rfl
            simp (maxSteps := 4000000) -implicitDefEqProofs (disch := omega) only [push_cast, Nat.reduceAdd, Nat.reduceLeDiff, Nat.reduceMul, Nat.reduceSub, Nat.reduceLT, Nat.reduceEqDiff, Int.reduceAdd, Int.reduceSub, Int.reduceLE, Int.reduceLT, Int.reduceEq, Int.reduceNe, Int.reduceToNat, Int.reduceNeg, reduceIte, reduceCtorEq, eq_true c1, eq_true z1, i1, eq_false c2, eq_false c3, eq_false c4, c5, wrap_i64 _ w1, e0, e1]
            replace H := H.perm [0] (by decide)
            exact ⟨⟨(v1.Page, a2 + 1), h4⟩, hm.2, ⟨hm.1, H⟩, Retell.weak (by simp [Weak, push_cast]) (Hp.sub.refl _)⟩
  · replace hm := ifn hm c1
    have e0 := H.getP 0 rfl
    simp (maxSteps := 4000000) -implicitDefEqProofs (disch := omega) only [push_cast, Nat.reduceAdd, Nat.reduceLeDiff, Nat.reduceMul, Nat.reduceSub, Nat.reduceLT, Nat.reduceEqDiff, Int.reduceAdd, Int.reduceSub, Int.reduceLE, Int.reduceLT, Int.reduceEq, Int.reduceNe, Int.reduceToNat, Int.reduceNeg, reduceIte, reduceCtorEq, eq_false c1, e0]
    rw [gfork_cond]
    refine ⟨fun c6 => ?_, fun c6 => ?_⟩
    · replace hm := ifp hm c6
      have e0 := H.getP 0 rfl
      simp (maxSteps := 4000000) -implicitDefEqProofs (disch := omega) only [push_cast, Nat.reduceAdd, Nat.reduceLeDiff, Nat.reduceMul, Nat.reduceSub, Nat.reduceLT, Nat.reduceEqDiff, Int.reduceAdd, Int.reduceSub, Int.reduceLE, Int.reduceLT, Int.reduceEq, Int.reduceNe, Int.reduceToNat, Int.reduceNeg, reduceIte, reduceCtorEq, eq_false c1, eq_true c6, e0]
      exact retQ_back (.inl rfl) (decide (a0_.Pages ≤ 999999999)) _ rfl (Shift.refl _ _) H.sub hm
    · replace hm := ifn hm c6
      have e0 := H.getP 0 rfl
      simp (maxSteps := 4000000) -implicitDefEqProofs (disch := omega) only [push_cast, Nat.reduceAdd, Nat.reduceLeDiff, Nat.reduceMul, Nat.reduceSub, Nat.reduceLT, Nat.reduceEqDiff, Int.reduceAdd, Int.reduceSub, Int.reduceLE, Int.reduceLT, Int.reduceEq, Int.reduceNe, Int.reduceToNat, Int.reduceNeg, reduceIte, reduceCtorEq, eq_false c1, eq_false c6, e0]
      exact retQ_back (.inl rfl) false _ rfl (Shift.refl _ _) H.sub hm
/-! (*strings.Builder).WriteString -/
abbrev n_strings_Builder_WriteString : Nat := 14
noncomputable def code_strings_Builder_WriteString : Code := match Tryd.f14.body with | some c => c | none => .skip
def ann_strings_Builder_WriteString : Nat → Ann
  | _ => {}
noncomputable def ac_strings_Builder_WriteString : AC :=
  (.seq (.reg [⟨some 4, (Op.assign (Operand.const (Value.int IntKind.i64 0))), none, false⟩, ⟨some 5, (Op.assign (Operand.const Value.nilIface)), none, false⟩]) (.seq (.reg [⟨some 6, (Op.move (Operand.tmp 0)), none, false⟩, ⟨some 7, (Op.call (Call.mk (Callee.value (Operand.func 26)) #[(Operand.tmp 6)] #[43])), none, false⟩]) (.seq (.reg [⟨some 8, (Op.move (Operand.tmp 0)), none, false⟩, ⟨some 9, (Op.move (Operand.tmp 0)), none, false⟩, ⟨some 10, (Op.nilCheck (Operand.tmp 9)), none, false⟩, ⟨some 11, (Op.fieldAddr 46 (Operand.tmp 10) 1), none, false⟩, ⟨some 12, (Op.load 44 (Operand.tmp 11)), none, false⟩, ⟨some 13, (Op.move (Operand.tmp 1)), none, false⟩, ⟨some 14, (Op.call (Call.mk (Callee.builtin Builtin.append) #[(Operand.tmp 12), (Operand.tmp 13)] #[44, 9])), none, false⟩, ⟨some 15, (Op.nilCheck (Operand.tmp 8)), none, false⟩, ⟨some 16, (Op.fieldAddr 46 (Operand.tmp 15) 1), none, false⟩, ⟨none, (Op.store 44 (Operand.tmp 16) (Operand.tmp 14)), none, false⟩]) (.seq (.reg [⟨some 17, (Op.move (Operand.tmp 1)), none, false⟩, ⟨some 18, (Op.call (Call.mk (Callee.builtin Builtin.len) #[(Operand.tmp 17)] #[9])), none, false⟩, ⟨some 4, (Op.assign (Operand.tmp 18)), none, false⟩, ⟨some 5, (Op.assign (Operand.const Value.nilIface)), none, false⟩]) .ret))))
theorem body_strings_Builder_WriteString : Tryd.f14.body = some code_strings_Builder_WriteString := by kernel_rfl
theorem slim_strings_Builder_WriteString : slim ann_strings_Builder_WriteString code_strings_Builder_WriteString = some ac_strings_Builder_WriteString := by kernel_rfl
theorem name_strings_Builder_WriteString : (Tryd.f14.name == "runtime.NumGoroutine") = false := by kernel_rfl
theorem enter_strings_Builder_WriteString {args : List AV} {h : Hp} {Q : AE → Hp → Prop} (H : awp Tryd.prog tab ac_strings_Builder_WriteString (retQ tab [(ResultVar.tmp 4), (ResultVar.tmp 5)] Q) ⟨args ++ List.replicate (19 - args.length) .any, h⟩) : ACalls Tryd.prog 14 args h Q :=
  acalls_of tab_ok mixed Tryd.func14 body_strings_Builder_WriteString name_strings_Builder_WriteString slim_strings_Builder_WriteString rfl Tryd.ntmps14 H
/-- (*strings.Builder).WriteString, with what it is handed -/
def strings_Builder_WriteString_i0.w (a0_ : ByteArray) (c0_0_ : Bool) (c0_1_ : List Int) (Q : (Int × Bool) → Bool → (List Int) → Prop) : Prop :=
  ((c0_1_.length + (strInts a0_).length) * 1 ≤ 140737488355328) ∧
  Q ((a0_.size : Int), false) true (c0_1_ ++ (strInts a0_))
theorem strings_Builder_WriteString_i0.ok {a0_ : ByteArray} {c0_0_ : Bool} {c0_1_ : List Int} {Q : (Int × Bool) → Bool → (List Int) → Prop} (hm : strings_Builder_WriteString_i0.w a0_ c0_0_ c0_1_ Q) {h0 h : Hp} {b0_ : Nat} {x0_1_ : AV} (H : AM.Own h0 h [⟨x0_1_, false, 1, c0_1_.map encU8, some (5, 0)⟩, ⟨(.optr b0_ 2 0 0), true, 2, [[bself c0_0_ b0_ 2 0, x0_1_]], some (46, 2)⟩]) : ACalls Tryd.prog n_strings_Builder_WriteString [(.optr b0_ 2 0 0), (astr a0_)] h (fun e h' => ∃ (r : Int × Bool) (c0_0' : Bool) (c0_1' : List Int) (x0_1_' : AV), e = .ret ((fun r => .tup [(aint r.1), (eface 100 r.2)]) r) ∧ AM.Own h0 h' [⟨x0_1_', false, 1, c0_1'.map encU8, some (5, 0)⟩, ⟨(.optr b0_ 2 0 0), true, 2, [[bself c0_0' b0_ 2 0, x0_1_']], some (46, 2)⟩] ∧ Q r c0_0' c0_1') := by
  refine enter_strings_Builder_WriteString ?_
  unfold strings_Builder_WriteString_i0.w at hm
  have e1 := H.getP 1 rfl
  simp (maxSteps := 4000000) -implicitDefEqProofs (disch := omega) only [push_cast, Nat.reduceAdd, Nat.reduceLeDiff, Nat.reduceMul, Nat.reduceSub, Nat.reduceLT, Nat.reduceEqDiff, Int.reduceAdd, Int.reduceSub, Int.reduceLE, Int.reduceLT, Int.reduceEq, Int.reduceNe, Int.reduceToNat, Int.reduceNeg, reduceIte, reduceCtorEq, ac_strings_Builder_WriteString, e1]
  refine calls_of (bldCheck H 1 rfl) ?_
  rintro _ h1 ⟨rfl, H'⟩
  replace H := H'
  have e1 := H.getP 1 rfl
  simp (maxSteps := 4000000) -implicitDefEqProofs (disch := omega) only [push_cast, Nat.reduceAdd, Nat.reduceLeDiff, Nat.reduceMul, Nat.reduceSub, Nat.reduceLT, Nat.reduceEqDiff, Int.reduceAdd, Int.reduceSub, Int.reduceLE, Int.reduceLT, Int.reduceEq, Int.reduceNe, Int.reduceToNat, Int.reduceNeg, reduceIte, reduceCtorEq, aSrc_strI, e1]
  obtain ⟨w1, hm⟩ := hm
  refine H.appL (E := encU8) 0 (strInts a0_) rfl rfl rfl (by decide) (by decide) w1 (fun x1 h2 H => ?_)
  have e1 := H.getP 1 rfl
  simp (maxSteps := 4000000) -implicitDefEqProofs (disch := omega) only [push_cast, Nat.reduceAdd, Nat.reduceLeDiff, Nat.reduceMul, Nat.reduceSub, Nat.reduceLT, Nat.reduceEqDiff, Int.reduceAdd, Int.reduceSub, Int.reduceLE, Int.reduceLT, Int.reduceEq, Int.reduceNe, Int.reduceToNat, Int.reduceNeg, reduceIte, reduceCtorEq, e1]
  refine H.stP 1 [bself true b0_ 2 0, x1] rfl (H.ok 0 rfl).1 (H.ok 0 rfl).2 rfl (Nat.le_of_ble_eq_true rfl) rfl (fun h3 H => ?_)
  have e1 := H.getP 1 rfl
  simp (maxSteps := 4000000) -implicitDefEqProofs (disch := omega) only [push_cast, Nat.reduceAdd, Nat.reduceLeDiff, Nat.reduceMul, Nat.reduceSub, Nat.reduceLT, Nat.reduceEqDiff, Int.reduceAdd, Int.reduceSub, Int.reduceLE, Int.reduceLT, Int.reduceEq, Int.reduceNe, Int.reduceToNat, Int.reduceNeg, reduceIte, reduceCtorEq, e1]
  have e1 := H.getP 1 rfl
  replace H := H.perm [0, 1] (by decide)
  exact retQ_o (.inl rfl) (x := (.tup [(aint (a0_.size : Int)), (.val .nilIface)])) rfl (Shift.refl _ _) ⟨((a0_.size : Int), false), true, c0_1_ ++ (strInts a0_), x1, rfl, H, hm⟩
end Go.Proofs.YtggcmnoacplbkaaDoor
