/- Functions of the program: code, what is asked for their answers, the walk (printed by pr.py). -/
import Derived.Test.YtggcmnoacplbkaaDoorWA3
namespace Go.Proofs.YtggcmnoacplbkaaDoor
open Go Go.Proofs.YtggcmnoacplbkaaDoor.AM
set_option maxRecDepth 100000
set_option linter.unusedSimpArgs false
set_option linter.unusedVariables false
set_option maxHeartbeats 4000000
/-! stylus/stylusref35.Same -/
abbrev n_stylusref35_Same : Nat := 8
noncomputable def code_stylusref35_Same : Code := match Tryd.f8.body with | some c => c | none => .skip
def ann_stylusref35_Same : Nat → Ann
  | 6 => { pure := [26], plan := (.op 0 (.op 1 (.op 2 (.op 3 (.op 4 (.op 5 (.op 6 (.op 7 (.op 8 (.op 9 (.op 10 (.op 11 (.op 12 (.op 13 (.op 14 (.op 15 (.op 16 (.op 17 (.op 18 (.op 19 (.op 20 (.op 21 (.op 22 (.op 23 (.op 24 (.op 25 (.op 26 (.op 27 (.op 28 .done))))))))))))))))))))))))))))), ghost := false, post := false }
  | _ => {}
noncomputable def ac_stylusref35_Same : AC :=
  (.seq (.reg [⟨some 2, (Op.box 24 (Operand.tmp 0)), none, false⟩, ⟨some 3, (Op.box 24 (Operand.tmp 1)), none, false⟩, ⟨some 4, (Op.assign (Operand.const (Value.bool false))), none, false⟩]) (.seq (.seq (.reg [⟨some 6, (Op.fieldAddr 24 (Operand.tmp 2) 0), none, false⟩, ⟨some 7, (Op.load 3 (Operand.tmp 6)), none, false⟩, ⟨some 8, (Op.fieldAddr 24 (Operand.tmp 3) 0), none, false⟩, ⟨some 9, (Op.load 3 (Operand.tmp 8)), none, false⟩, ⟨some 10, (Op.binOp BinOp.neq 3 (Operand.tmp 7) (Operand.tmp 9) 3), none, false⟩, ⟨some 11, (Op.move (Operand.tmp 10)), none, false⟩, ⟨some 12, (Op.fieldAddr 24 (Operand.tmp 2) 1), (some (some 11, false)), false⟩, ⟨some 13, (Op.load 22 (Operand.tmp 12)), (some (some 11, false)), false⟩, ⟨some 14, (Op.call (Call.mk (Callee.builtin Builtin.len) #[(Operand.tmp 13)] #[22])), (some (some 11, false)), false⟩, ⟨some 15, (Op.fieldAddr 24 (Operand.tmp 3) 1), (some (some 11, false)), false⟩, ⟨some 16, (Op.load 22 (Operand.tmp 15)), (some (some 11, false)), false⟩, ⟨some 17, (Op.call (Call.mk (Callee.builtin Builtin.len) #[(Operand.tmp 16)] #[22])), (some (some 11, false)), false⟩, ⟨some 18, (Op.binOp BinOp.neq 3 (Operand.tmp 14) (Operand.tmp 17) 3), (some (some 11, false)), false⟩, ⟨some 19, (Op.pick (Operand.tmp 11) (Operand.const (Value.bool true)) (Operand.tmp 18)), none, false⟩]) (.cond (Operand.tmp 19) (.seq (.reg [⟨some 4, (Op.assign (Operand.const (Value.bool false))), none, false⟩]) .ret) .skip)) (.seq (.seq (.reg [⟨some 5, (Op.assign (Operand.const (Value.int IntKind.i64 0))), none, false⟩]) (.block 0 (.loop (.seq (.seq (.reg [⟨some 20, (Op.move (Operand.tmp 5)), none, false⟩, ⟨some 21, (Op.fieldAddr 24 (Operand.tmp 2) 1), none, false⟩, ⟨some 22, (Op.load 22 (Operand.tmp 21)), none, false⟩, ⟨some 23, (Op.call (Call.mk (Callee.builtin Builtin.len) #[(Operand.tmp 22)] #[22])), none, false⟩, ⟨some 24, (Op.binOp BinOp.lss 3 (Operand.tmp 20) (Operand.tmp 23) 3), none, false⟩]) (.cond (Operand.tmp 24) .skip (.exit 0))) (.seq (.block 1 (.seq (.draw [⟨some 27, (Op.fieldAddr 24 (Operand.tmp 2) 1), none, false⟩, ⟨some 28, (Op.load 22 (Operand.tmp 27)), none, false⟩, ⟨some 29, (Op.move (Operand.tmp 5)), none, false⟩, ⟨some 30, (Op.indexAddr 22 (Operand.tmp 28) (Operand.tmp 29)), none, false⟩, ⟨some 31, (Op.fieldAddr 37 (Operand.tmp 30) 0), none, false⟩, ⟨some 32, (Op.load 3 (Operand.tmp 31)), none, false⟩, ⟨some 33, (Op.fieldAddr 24 (Operand.tmp 3) 1), none, false⟩, ⟨some 34, (Op.load 22 (Operand.tmp 33)), none, false⟩, ⟨some 35, (Op.move (Operand.tmp 5)), none, false⟩, ⟨some 36, (Op.indexAddr 22 (Operand.tmp 34) (Operand.tmp 35)), none, false⟩, ⟨some 37, (Op.fieldAddr 37 (Operand.tmp 36) 0), none, false⟩, ⟨some 38, (Op.load 3 (Operand.tmp 37)), none, false⟩, ⟨some 39, (Op.binOp BinOp.neq 3 (Operand.tmp 32) (Operand.tmp 38) 3), none, false⟩, ⟨some 40, (Op.move (Operand.tmp 39)), none, false⟩, ⟨some 41, (Op.fieldAddr 24 (Operand.tmp 2) 1), (some (some 40, false)), false⟩, ⟨some 42, (Op.load 22 (Operand.tmp 41)), (some (some 40, false)), false⟩, ⟨some 43, (Op.move (Operand.tmp 5)), (some (some 40, false)), false⟩, ⟨some 44, (Op.indexAddr 22 (Operand.tmp 42) (Operand.tmp 43)), (some (some 40, false)), false⟩, ⟨some 45, (Op.fieldAddr 37 (Operand.tmp 44) 1), (some (some 40, false)), false⟩, ⟨some 46, (Op.load 35 (Operand.tmp 45)), (some (some 40, false)), false⟩, ⟨some 47, (Op.fieldAddr 24 (Operand.tmp 3) 1), (some (some 40, false)), false⟩, ⟨some 48, (Op.load 22 (Operand.tmp 47)), (some (some 40, false)), false⟩, ⟨some 49, (Op.move (Operand.tmp 5)), (some (some 40, false)), false⟩, ⟨some 50, (Op.indexAddr 22 (Operand.tmp 48) (Operand.tmp 49)), (some (some 40, false)), false⟩, ⟨some 51, (Op.fieldAddr 37 (Operand.tmp 50) 1), (some (some 40, false)), false⟩, ⟨some 52, (Op.load 35 (Operand.tmp 51)), (some (some 40, false)), false⟩, ⟨some 53, (Op.call (Call.mk (Callee.value (Operand.func 19)) #[(Operand.tmp 46), (Operand.tmp 52)] #[35, 35])), (some (some 40, false)), true⟩, ⟨some 54, (Op.unOp UnOp.not 4 (Operand.tmp 53)), (some (some 40, false)), false⟩, ⟨some 55, (Op.pick (Operand.tmp 40) (Operand.const (Value.bool true)) (Operand.tmp 54)), none, false⟩] (.op 0 (.op 1 (.op 2 (.op 3 (.op 4 (.op 5 (.op 6 (.op 7 (.op 8 (.op 9 (.op 10 (.op 11 (.op 12 (.op 13 (.op 14 (.op 15 (.op 16 (.op 17 (.op 18 (.op 19 (.op 20 (.op 21 (.op 22 (.op 23 (.op 24 (.op 25 (.op 26 (.op 27 (.op 28 .done)))))))))))))))))))))))))))))) (.cond (Operand.tmp 55) (.seq (.reg [⟨some 4, (Op.assign (Operand.const (Value.bool false))), none, false⟩]) .ret) .skip))) (.reg [⟨some 25, (Op.move (Operand.tmp 5)), none, false⟩, ⟨some 26, (Op.binOp BinOp.add 3 (Operand.tmp 25) (Operand.const (Value.int IntKind.i64 1)) 3), none, false⟩, ⟨some 5, (Op.assign (Operand.tmp 26)), none, false⟩])))))) (.seq (.reg [⟨some 4, (Op.assign (Operand.const (Value.bool true))), none, false⟩]) .ret))))
theorem body_stylusref35_Same : Tryd.f8.body = some code_stylusref35_Same := by kernel_rfl
theorem slim_stylusref35_Same : slim ann_stylusref35_Same code_stylusref35_Same = some ac_stylusref35_Same := by kernel_rfl
theorem name_stylusref35_Same : (Tryd.f8.name == "runtime.NumGoroutine") = false := by kernel_rfl
theorem enter_stylusref35_Same {args : List AV} {h : Hp} {Q : AE → Hp → Prop} (H : awp Tryd.prog tab ac_stylusref35_Same (retQ tab [(ResultVar.tmp 4)] Q) ⟨args ++ List.replicate (56 - args.length) .any, h⟩) : ACalls Tryd.prog 8 args h Q :=
  acalls_of tab_ok mixed Tryd.func8 body_stylusref35_Same name_stylusref35_Same slim_stylusref35_Same rfl Tryd.ntmps8 H
/-- stylus/stylusref35.Same -/
def stylusref35_Same.w (a0_ : ApiPatch) (a1_ : ApiPatch) (Q : Bool → Prop) : Prop :=
  if a0_.Pages = a1_.Pages then
    if (a0_.Changes.length : Int) = (a1_.Changes.length : Int) then
      wloop (σ := Int) (fun a1 next1 =>
        if a1 < (a0_.Changes.length : Int) then
          (0 ≤ a1) ∧
          ∃ v1 : ApiChange, a0_.Changes[a1.toNat]? = some v1 ∧
          ∃ v2 : ApiChange, a1_.Changes[a1.toNat]? = some v2 ∧
          if v1.Page = v2.Page then
            ∃ r1 : Bool, stylusref35_Lines.w v1.Lines v2.Lines (fun r' => r' = r1) ∧
            if (!r1) = true then
              Q false
            else
              (I64 (a1 + 1)) ∧
              next1 (a1 + 1)
          else
            Q false
        else
          Q true) 0
    else
      Q false
  else
    Q false
theorem stylusref35_Same.ok {a0_ : ApiPatch} {a1_ : ApiPatch} {Q : Bool → Prop} (hm : stylusref35_Same.w a0_ a1_ Q) (h0 : Hp) : ACalls Tryd.prog n_stylusref35_Same [(.agg (ApiPatch.enc a0_)), (.agg (ApiPatch.enc a1_))] h0 (Back h0 (fun r => (abool r)) Q) := by
  refine enter_stylusref35_Same ?_
  unfold stylusref35_Same.w at hm
  have H := AM.Own.nil h0
  simp (maxSteps := 4000000) -implicitDefEqProofs (disch := omega) only [push_cast, Nat.reduceAdd, Nat.reduceLeDiff, Nat.reduceMul, Nat.reduceSub, Nat.reduceLT, Nat.reduceEqDiff, Int.reduceAdd, Int.reduceSub, Int.reduceLE, Int.reduceLT, Int.reduceEq, Int.reduceNe, Int.reduceToNat, Int.reduceNeg, reduceIte, reduceCtorEq, ac_stylusref35_Same]
  refine H.newR (ApiPatch.enc a0_) rfl (fun b1 h1 H => ?_)
  have e0 := H.getP 0 rfl
  simp (maxSteps := 4000000) -implicitDefEqProofs (disch := omega) only [push_cast, Nat.reduceAdd, Nat.reduceLeDiff, Nat.reduceMul, Nat.reduceSub, Nat.reduceLT, Nat.reduceEqDiff, Int.reduceAdd, Int.reduceSub, Int.reduceLE, Int.reduceLT, Int.reduceEq, Int.reduceNe, Int.reduceToNat, Int.reduceNeg, reduceIte, reduceCtorEq, e0]
  refine H.newR (ApiPatch.enc a1_) rfl (fun b2 h2 H => ?_)
  have e0 := H.getP 0 rfl
  have e1 := H.getP 1 rfl
  simp (maxSteps := 4000000) -implicitDefEqProofs (disch := omega) only [push_cast, Nat.reduceAdd, Nat.reduceLeDiff, Nat.reduceMul, Nat.reduceSub, Nat.reduceLT, Nat.reduceEqDiff, Int.reduceAdd, Int.reduceSub, Int.reduceLE, Int.reduceLT, Int.reduceEq, Int.reduceNe, Int.reduceToNat, Int.reduceNeg, reduceIte, reduceCtorEq, e0, e1]
  rw [gfork_cond']
  refine ⟨fun c1 => ?_, fun c1 => ?_⟩
  · replace hm := ifn hm c1
    have e0 := H.getP 0 rfl
    have e1 := H.getP 1 rfl
    simp (maxSteps := 4000000) -implicitDefEqProofs (disch := omega) only [push_cast, Nat.reduceAdd, Nat.reduceLeDiff, Nat.reduceMul, Nat.reduceSub, Nat.reduceLT, Nat.reduceEqDiff, Int.reduceAdd, Int.reduceSub, Int.reduceLE, Int.reduceLT, Int.reduceEq, Int.reduceNe, Int.reduceToNat, Int.reduceNeg, reduceIte, reduceCtorEq, eq_false c1, e0, e1]
    exact retQ_back (.inl rfl) false _ rfl (Shift.refl _ _) H.sub hm
  · replace c1 := Decidable.not_not.1 c1
    replace hm := ifp hm c1
    have e0 := H.getP 0 rfl
    have e1 := H.getP 1 rfl
    simp (maxSteps := 4000000) -implicitDefEqProofs (disch := omega) only [push_cast, Nat.reduceAdd, Nat.reduceLeDiff, Nat.reduceMul, Nat.reduceSub, Nat.reduceLT, Nat.reduceEqDiff, Int.reduceAdd, Int.reduceSub, Int.reduceLE, Int.reduceLT, Int.reduceEq, Int.reduceNe, Int.reduceToNat, Int.reduceNeg, reduceIte, reduceCtorEq, eq_true c1, e0, e1]
    rw [fork_cond]
    refine ⟨fun c2 => ?_, fun c2 => ?_⟩
    · replace hm := ifn hm c2
      have e0 := H.getP 0 rfl
      have e1 := H.getP 1 rfl
      simp (maxSteps := 4000000) -implicitDefEqProofs (disch := omega) only [push_cast, Nat.reduceAdd, Nat.reduceLeDiff, Nat.reduceMul, Nat.reduceSub, Nat.reduceLT, Nat.reduceEqDiff, Int.reduceAdd, Int.reduceSub, Int.reduceLE, Int.reduceLT, Int.reduceEq, Int.reduceNe, Int.reduceToNat, Int.reduceNeg, reduceIte, reduceCtorEq, eq_true c1, eq_false c2, e0, e1]
      exact retQ_back (.inl rfl) false _ rfl (Shift.refl _ _) H.sub hm
    · replace c2 := Decidable.not_not.1 c2
      replace hm := ifp hm c2
      have e0 := H.getP 0 rfl
      have e1 := H.getP 1 rfl
      simp (maxSteps := 4000000) -implicitDefEqProofs (disch := omega) only [push_cast, Nat.reduceAdd, Nat.reduceLeDiff, Nat.reduceMul, Nat.reduceSub, Nat.reduceLT, Nat.reduceEqDiff, Int.reduceAdd, Int.reduceSub, Int.reduceLE, Int.reduceLT, Int.reduceEq, Int.reduceNe, Int.reduceToNat, Int.reduceNeg, reduceIte, reduceCtorEq, eq_true c1, eq_true c2, e0, e1]
      obtain ⟨inv1, mu1, hi1, hs1⟩ := hm
      replace H := H.perm [0, 1] (by decide)
      refine awp_loop (σ := Int × Hp) (fun ⟨a1, h3⟩ => ⟨(((List.replicate 56 AV.any).set 2 (.optr b1 2 0 0)).set 3 (.optr b2 2 0 0)).set 5 (aint a1), h3⟩) (fun ⟨a1, h3⟩ => inv1 a1 ∧ AM.Own h0 h3 [⟨(.optr b1 2 0 0), true, 2, [(ApiPatch.enc a0_)], some (24, 2)⟩, ⟨(.optr b2 2 0 0), true, 2, [(ApiPatch.enc a1_)], some (24, 2)⟩]) (fun ⟨a1, h3⟩ => mu1 a1) ⟨0, h2⟩ (Retell.weak (by simp [Weak, push_cast]) (Hp.sub.refl _)) ⟨hi1, H⟩ ?_
      rintro ⟨a1, h3⟩ ⟨hi1, H⟩
      have hm := hs1 _ hi1
      dsimp only at hm H ⊢
      have e0 := H.getP 0 rfl
      have e1 := H.getP 1 rfl
      simp (maxSteps := 4000000) -implicitDefEqProofs (disch := omega) only [push_cast, Nat.reduceAdd, Nat.reduceLeDiff, Nat.reduceMul, Nat.reduceSub, Nat.reduceLT, Nat.reduceEqDiff, Int.reduceAdd, Int.reduceSub, Int.reduceLE, Int.reduceLT, Int.reduceEq, Int.reduceNe, Int.reduceToNat, Int.reduceNeg, reduceIte, reduceCtorEq, eq_true c1, eq_true c2, e0, e1]
      rw [fork_cond]
      refine ⟨fun c3 => ?_, fun c3 => ?_⟩
      · replace hm := ifp hm c3
        obtain ⟨z1, hm⟩ := hm
        obtain ⟨v1, i1, hm⟩ := hm
        obtain ⟨v2, i2, hm⟩ := hm
        have e0 := H.getP 0 rfl
        have e1 := H.getP 1 rfl
        simp (maxSteps := 4000000) -implicitDefEqProofs (disch := omega) only [push_cast, Nat.reduceAdd, Nat.reduceLeDiff, Nat.reduceMul, Nat.reduceSub, Nat.reduceLT, Nat.reduceEqDiff, Int.reduceAdd, Int.reduceSub, Int.reduceLE, Int.reduceLT, Int.reduceEq, Int.reduceNe, Int.reduceToNat, Int.reduceNeg, reduceIte, reduceCtorEq, eq_true c1, eq_true c2, eq_true c3, eq_true z1, i1, i2, e0, e1]
        rw [gfork_cond']
        refine ⟨fun c4 => ?_, fun c4 => ?_⟩
        · replace hm := ifn hm c4
          have e0 := H.getP 0 rfl
          have e1 := H.getP 1 rfl
          simp (maxSteps := 4000000) -implicitDefEqProofs (disch := omega) only [push_cast, Nat.reduceAdd, Nat.reduceLeDiff, Nat.reduceMul, Nat.reduceSub, Nat.reduceLT, Nat.reduceEqDiff, Int.reduceAdd, Int.reduceSub, Int.reduceLE, Int.reduceLT, Int.reduceEq, Int.reduceNe, Int.reduceToNat, Int.reduceNeg, reduceIte, reduceCtorEq, eq_true c1, eq_true c2, eq_true c3, eq_true z1, i1, i2, eq_false c4, e0, e1]
          exact retQ_back (.inl rfl) false _ rfl (Shift.refl _ _) H.sub hm
        · replace c4 := Decidable.not_not.1 c4
          replace hm := ifp hm c4
          have e0 := H.getP 0 rfl
          have e1 := H.getP 1 rfl
          simp (maxSteps := 4000000) -implicitDefEqProofs (disch := omega) only [push_cast, Nat.reduceAdd, Nat.reduceLeDiff, Nat.reduceMul, Nat.reduceSub, Nat.reduceLT, Nat.reduceEqDiff, Int.reduceAdd, Int.reduceSub, Int.reduceLE, Int.reduceLT, Int.reduceEq, Int.reduceNe, Int.reduceToNat, Int.reduceNeg, reduceIte, reduceCtorEq, eq_true c1, eq_true c2, eq_true c3, eq_true z1, i1, i2, eq_true c4, e0, e1]
          obtain ⟨r1, g1, hm⟩ := hm
          refine pures_of _ (pure_of_back (fun h => stylusref35_Lines.ok g1 h)) ?_
          have e0 := H.getP 0 rfl
          have e1 := H.getP 1 rfl
          simp (maxSteps := 4000000) -implicitDefEqProofs (disch := omega) only [push_cast, Nat.reduceAdd, Nat.reduceLeDiff, Nat.reduceMul, Nat.reduceSub, Nat.reduceLT, Nat.reduceEqDiff, Int.reduceAdd, Int.reduceSub, Int.reduceLE, Int.reduceLT, Int.reduceEq, Int.reduceNe, Int.reduceToNat, Int.reduceNeg, reduceIte, reduceCtorEq, eq_true c1, eq_true c2, eq_true c3, eq_true z1, i1, i2, eq_true c4, e0, e1]
          rw [fork_bool]
          refine ⟨fun c5 => ?_, fun c5 => ?_⟩
          · replace hm := ifp hm c5
            have e0 := H.getP 0 rfl
            have e1 := H.getP 1 rfl
            simp (maxSteps := 4000000) -implicitDefEqProofs (disch := omega) only [push_cast, Nat.reduceAdd, Nat.reduceLeDiff, Nat.reduceMul, Nat.reduceSub, Nat.reduceLT, Nat.reduceEqDiff, Int.reduceAdd, Int.reduceSub, Int.reduceLE, Int.reduceLT, Int.reduceEq, Int.reduceNe, Int.reduceToNat, Int.reduceNeg, reduceIte, reduceCtorEq, eq_true c1, eq_true c2, eq_true c3, eq_true z1, i1, i2, eq_true c4, c5, e0, e1]
            exact retQ_back (.inl rfl) false _ rfl (Shift.refl _ _) H.sub hm
          · replace hm := ifn hm (by rw [c5]; exact Bool.false_ne_true)
            obtain ⟨w1, hm⟩ := hm
            have e0 := H.getP 0 rfl
            have e1 := H.getP 1 rfl
            simp (maxSteps := 4000000) -implicitDefEqProofs (disch := omega) only [push_cast, Nat.reduceAdd, Nat.reduceLeDiff, Nat.reduceMul, Nat.reduceSub, Nat.reduceLT, Nat.reduceEqDiff, Int.reduceAdd, Int.reduceSub, Int.reduceLE, Int.reduceLT, Int.reduceEq, Int.reduceNe, Int.reduceToNat, Int.reduceNeg, reduceIte, reduceCtorEq, eq_true c1, eq_true c2, eq_true c3, eq_true z1, i1, i2, eq_true c4, c5, wrap_i64 _ w1, e0, e1]
            replace H := H.perm [0, 1] (by decide)
            exact ⟨⟨a1 + 1, h3⟩, hm.2, ⟨hm.1, H⟩, Retell.weak (by simp [Weak, push_cast]) (Hp.sub.refl _)⟩
      · replace hm := ifn hm c3
        have e0 := H.getP 0 rfl
        have e1 := H.getP 1 rfl
        simp (maxSteps := 4000000) -implicitDefEqProofs (disch := omega) only [push_cast, Nat.reduceAdd, Nat.reduceLeDiff, Nat.reduceMul, Nat.reduceSub, Nat.reduceLT, Nat.reduceEqDiff, Int.reduceAdd, Int.reduceSub, Int.reduceLE, Int.reduceLT, Int.reduceEq, Int.reduceNe, Int.reduceToNat, Int.reduceNeg, reduceIte, reduceCtorEq, eq_true c1, eq_true c2, eq_false c3, e0, e1]
        exact retQ_back (.inl rfl) true _ rfl (Shift.refl _ _) H.sub hm
/-! stylus/stylusref35.Pages -/
abbrev n_stylusref35_Pages : Nat := 12
noncomputable def code_stylusref35_Pages : Code := match Tryd.f12.body with | some c => c | none => .skip
def ann_stylusref35_Pages : Nat → Ann
  | 6 => { pure := [8], plan := (.op 0 (.op 1 (.op 2 (.op 3 (.op 4 (.op 5 (.op 6 (.op 7 (.op 8 (.op 9 .done)))))))))), ghost := false, post := false }
  | _ => {}
noncomputable def ac_stylusref35_Pages : AC :=
  (.seq (.reg [⟨some 4, (Op.assign (Operand.const (Value.bool false))), none, false⟩]) (.seq (.seq (.reg [⟨some 6, (Op.move (Operand.tmp 0)), none, false⟩, ⟨some 7, (Op.call (Call.mk (Callee.builtin Builtin.len) #[(Operand.tmp 6)] #[38])), none, false⟩, ⟨some 8, (Op.move (Operand.tmp 1)), none, false⟩, ⟨some 9, (Op.call (Call.mk (Callee.builtin Builtin.len) #[(Operand.tmp 8)] #[38])), none, false⟩, ⟨some 10, (Op.binOp BinOp.neq 3 (Operand.tmp 7) (Operand.tmp 9) 3), none, false⟩]) (.cond (Operand.tmp 10) (.seq (.reg [⟨some 4, (Op.assign (Operand.const (Value.bool false))), none, false⟩]) .ret) .skip)) (.seq (.seq (.reg [⟨some 5, (Op.assign (Operand.const (Value.int IntKind.i64 0))), none, false⟩]) (.block 0 (.loop (.seq (.seq (.reg [⟨some 11, (Op.move (Operand.tmp 5)), none, false⟩, ⟨some 12, (Op.move (Operand.tmp 0)), none, false⟩, ⟨some 13, (Op.call (Call.mk (Callee.builtin Builtin.len) #[(Operand.tmp 12)] #[38])), none, false⟩, ⟨some 14, (Op.binOp BinOp.lss 3 (Operand.tmp 11) (Operand.tmp 13) 3), none, false⟩]) (.cond (Operand.tmp 14) .skip (.exit 0))) (.seq (.block 1 (.seq (.draw [⟨some 17, (Op.move (Operand.tmp 0)), none, false⟩, ⟨some 18, (Op.move (Operand.tmp 5)), none, false⟩, ⟨some 19, (Op.indexAddr 38 (Operand.tmp 17) (Operand.tmp 18)), none, false⟩, ⟨some 20, (Op.load 35 (Operand.tmp 19)), none, false⟩, ⟨some 21, (Op.move (Operand.tmp 1)), none, false⟩, ⟨some 22, (Op.move (Operand.tmp 5)), none, false⟩, ⟨some 23, (Op.indexAddr 38 (Operand.tmp 21) (Operand.tmp 22)), none, false⟩, ⟨some 24, (Op.load 35 (Operand.tmp 23)), none, false⟩, ⟨some 25, (Op.call (Call.mk (Callee.value (Operand.func 19)) #[(Operand.tmp 20), (Operand.tmp 24)] #[35, 35])), none, true⟩, ⟨some 26, (Op.unOp UnOp.not 4 (Operand.tmp 25)), none, false⟩] (.op 0 (.op 1 (.op 2 (.op 3 (.op 4 (.op 5 (.op 6 (.op 7 (.op 8 (.op 9 .done))))))))))) (.cond (Operand.tmp 26) (.seq (.reg [⟨some 4, (Op.assign (Operand.const (Value.bool false))), none, false⟩]) .ret) .skip))) (.reg [⟨some 15, (Op.move (Operand.tmp 5)), none, false⟩, ⟨some 16, (Op.binOp BinOp.add 3 (Operand.tmp 15) (Operand.const (Value.int IntKind.i64 1)) 3), none, false⟩, ⟨some 5, (Op.assign (Operand.tmp 16)), none, false⟩])))))) (.seq (.reg [⟨some 4, (Op.assign (Operand.const (Value.bool true))), none, false⟩]) .ret))))
theorem body_stylusref35_Pages : Tryd.f12.body = some code_stylusref35_Pages := by kernel_rfl
theorem slim_stylusref35_Pages : slim ann_stylusref35_Pages code_stylusref35_Pages = some ac_stylusref35_Pages := by kernel_rfl
theorem name_stylusref35_Pages : (Tryd.f12.name == "runtime.NumGoroutine") = false := by kernel_rfl
theorem enter_stylusref35_Pages {args : List AV} {h : Hp} {Q : AE → Hp → Prop} (H : awp Tryd.prog tab ac_stylusref35_Pages (retQ tab [(ResultVar.tmp 4)] Q) ⟨args ++ List.replicate (27 - args.length) .any, h⟩) : ACalls Tryd.prog 12 args h Q :=
  acalls_of tab_ok mixed Tryd.func12 body_stylusref35_Pages name_stylusref35_Pages slim_stylusref35_Pages rfl Tryd.ntmps12 H
/-- stylus/stylusref35.Pages -/
def stylusref35_Pages.w (a0_ : List (List ByteArray)) (a1_ : List (List ByteArray)) (Q : Bool → Prop) : Prop :=
  if (a0_.length : Int) = (a1_.length : Int) then
    wloop (σ := Int) (fun a1 next1 =>
      if a1 < (a0_.length : Int) then
        (0 ≤ a1) ∧
        ∃ v1 : List ByteArray, a0_[a1.toNat]? = some v1 ∧
        ∃ v2 : List ByteArray, a1_[a1.toNat]? = some v2 ∧
        ∃ r1 : Bool, stylusref35_Lines.w v1 v2 (fun r' => r' = r1) ∧
        if (!r1) = true then
          Q false
        else
          (I64 (a1 + 1)) ∧
          next1 (a1 + 1)
      else
        Q true) 0
  else
    Q false
theorem stylusref35_Pages.ok {a0_ : List (List ByteArray)} {a1_ : List (List ByteArray)} {Q : Bool → Prop} (hm : stylusref35_Pages.w a0_ a1_ Q) (h0 : Hp) : ACalls Tryd.prog n_stylusref35_Pages [(.isl 1 (a0_.map (encSl 1 AM.encStr))), (.isl 1 (a1_.map (encSl 1 AM.encStr)))] h0 (Back h0 (fun r => (abool r)) Q) := by
  refine enter_stylusref35_Pages ?_
  unfold stylusref35_Pages.w at hm
  have H := AM.Own.nil h0
  simp (maxSteps := 4000000) -implicitDefEqProofs (disch := omega) only [push_cast, Nat.reduceAdd, Nat.reduceLeDiff, Nat.reduceMul, Nat.reduceSub, Nat.reduceLT, Nat.reduceEqDiff, Int.reduceAdd, Int.reduceSub, Int.reduceLE, Int.reduceLT, Int.reduceEq, Int.reduceNe, Int.reduceToNat, Int.reduceNeg, reduceIte, reduceCtorEq, ac_stylusref35_Pages]
  rw [fork_cond]
  refine ⟨fun c1 => ?_, fun c1 => ?_⟩
  · replace hm := ifn hm c1
    simp (maxSteps := 4000000) -implicitDefEqProofs (disch := omega) only [push_cast, Nat.reduceAdd, Nat.reduceLeDiff, Nat.reduceMul, Nat.reduceSub, Nat.reduceLT, Nat.reduceEqDiff, Int.reduceAdd, Int.reduceSub, Int.reduceLE, Int.reduceLT, Int.reduceEq, Int.reduceNe, Int.reduceToNat, Int.reduceNeg, reduceIte, reduceCtorEq, eq_false c1]
    exact retQ_back (.inl rfl) false _ rfl (Shift.refl _ _) H.sub hm
  · replace c1 := Decidable.not_not.1 c1
    replace hm := ifp hm c1
    simp (maxSteps := 4000000) -implicitDefEqProofs (disch := omega) only [push_cast, Nat.reduceAdd, Nat.reduceLeDiff, Nat.reduceMul, Nat.reduceSub, Nat.reduceLT, Nat.reduceEqDiff, Int.reduceAdd, Int.reduceSub, Int.reduceLE, Int.reduceLT, Int.reduceEq, Int.reduceNe, Int.reduceToNat, Int.reduceNeg, reduceIte, reduceCtorEq, eq_true c1]
    obtain ⟨inv1, mu1, hi1, hs1⟩ := hm
    replace H := H.perm [] (by decide)
    refine awp_loop (σ := Int × Hp) (fun ⟨a1, h1⟩ => ⟨(((List.replicate 27 AV.any).set 0 (.isl 1 (a0_.map (encSl 1 AM.encStr)))).set 1 (.isl 1 (a1_.map (encSl 1 AM.encStr)))).set 5 (aint a1), h1⟩) (fun ⟨a1, h1⟩ => inv1 a1 ∧ AM.Own h0 h1 []) (fun ⟨a1, h1⟩ => mu1 a1) ⟨0, h0⟩ (Retell.weak (by simp [Weak, push_cast]) (Hp.sub.refl _)) ⟨hi1, H⟩ ?_
    rintro ⟨a1, h1⟩ ⟨hi1, H⟩
    have hm := hs1 _ hi1
    dsimp only at hm H ⊢
    simp (maxSteps := 4000000) -implicitDefEqProofs (disch := omega) only [push_cast, Nat.reduceAdd, Nat.reduceLeDiff, Nat.reduceMul, Nat.reduceSub, Nat.reduceLT, Nat.reduceEqDiff, Int.reduceAdd, Int.reduceSub, Int.reduceLE, Int.reduceLT, Int.reduceEq, Int.reduceNe, Int.reduceToNat, Int.reduceNeg, reduceIte, reduceCtorEq, eq_true c1]
    rw [fork_cond]
    refine ⟨fun c2 => ?_, fun c2 => ?_⟩
    · replace hm := ifp hm c2
      obtain ⟨z1, hm⟩ := hm
      obtain ⟨v1, i1, hm⟩ := hm
      obtain ⟨v2, i2, hm⟩ := hm
      simp (maxSteps := 4000000) -implicitDefEqProofs (disch := omega) only [push_cast, Nat.reduceAdd, Nat.reduceLeDiff, Nat.reduceMul, Nat.reduceSub, Nat.reduceLT, Nat.reduceEqDiff, Int.reduceAdd, Int.reduceSub, Int.reduceLE, Int.reduceLT, Int.reduceEq, Int.reduceNe, Int.reduceToNat, Int.reduceNeg, reduceIte, reduceCtorEq, eq_true c1, eq_true c2, eq_true z1, i1, i2]
      obtain ⟨r1, g1, hm⟩ := hm
      refine pures_of _ (pure_of_back (fun h => stylusref35_Lines.ok g1 h)) ?_
      simp (maxSteps := 4000000) -implicitDefEqProofs (disch := omega) only [push_cast, Nat.reduceAdd, Nat.reduceLeDiff, Nat.reduceMul, Nat.reduceSub, Nat.reduceLT, Nat.reduceEqDiff, Int.reduceAdd, Int.reduceSub, Int.reduceLE, Int.reduceLT, Int.reduceEq, Int.reduceNe, Int.reduceToNat, Int.reduceNeg, reduceIte, reduceCtorEq, eq_true c1, eq_true c2, eq_true z1, i1, i2]
      rw [fork_bool]
      refine ⟨fun c3 => ?_, fun c3 => ?_⟩
      · replace hm := ifp hm c3
        simp (maxSteps := 4000000) -implicitDefEqProofs (disch := omega) only [push_cast, Nat.reduceAdd, Nat.reduceLeDiff, Nat.reduceMul, Nat.reduceSub, Nat.reduceLT, Nat.reduceEqDiff, Int.reduceAdd, Int.reduceSub, Int.reduceLE, Int.reduceLT, Int.reduceEq, Int.reduceNe, Int.reduceToNat, Int.reduceNeg, reduceIte, reduceCtorEq, eq_true c1, eq_true c2, eq_true z1, i1, i2, c3]
        exact retQ_back (.inl rfl) false _ rfl (Shift.refl _ _) H.sub hm
      · replace hm := ifn hm (by rw [c3]; exact Bool.false_ne_true)
        obtain ⟨w1, hm⟩ := hm
        simp (maxSteps := 4000000) -implicitDefEqProofs (disch := omega) only [push_cast, Nat.reduceAdd, Nat.reduceLeDiff, Nat.reduceMul, Nat.reduceSub, Nat.reduceLT, Nat.reduceEqDiff, Int.reduceAdd, Int.reduceSub, Int.reduceLE, Int.reduceLT, Int.reduceEq, Int.reduceNe, Int.reduceToNat, Int.reduceNeg, reduceIte, reduceCtorEq, eq_true c1, eq_true c2, eq_true z1, i1, i2, c3, wrap_i64 _ w1]
        replace H := H.perm [] (by decide)
        exact ⟨⟨a1 + 1, h1⟩, hm.2, ⟨hm.1, H⟩, Retell.weak (by simp [Weak, push_cast]) (Hp.sub.refl _)⟩
    · replace hm := ifn hm c2
      simp (maxSteps := 4000000) -implicitDefEqProofs (disch := omega) only [push_cast, Nat.reduceAdd, Nat.reduceLeDiff, Nat.reduceMul, Nat.reduceSub, Nat.reduceLT, Nat.reduceEqDiff, Int.reduceAdd, Int.reduceSub, Int.reduceLE, Int.reduceLT, Int.reduceEq, Int.reduceNe, Int.reduceToNat, Int.reduceNeg, reduceIte, reduceCtorEq, eq_true c1, eq_false c2]
      exact retQ_back (.inl rfl) true _ rfl (Shift.refl _ _) H.sub hm
/-! stylus/styluslaw35.awake -/
abbrev n_styluslaw35_awake : Nat := 5
noncomputable def code_styluslaw35_awake : Code := match Tryd.f5.body with | some c => c | none => .skip
def ann_styluslaw35_awake : Nat → Ann
  | 1 => { pure := [], plan := .done, ghost := false, post := true }
  | 2 => { pure := [], plan := .done, ghost := true, post := false }
  | _ => {}
noncomputable def ac_styluslaw35_awake : AC :=
  (.seq (.reg [⟨some 0, (Op.assign (Operand.const (Value.bool false))), none, false⟩]) (.seq (.seq (.reg [⟨some 8, (Op.buildSlice 35 2 #[(0, (Operand.const (Value.string (ByteArray.mk #[97])))), (1, (Operand.const (Value.string (ByteArray.mk #[98]))))]), none, false⟩, ⟨some 9, (Op.buildSlice 35 1 #[(0, (Operand.const (Value.string (ByteArray.mk #[99]))))]), none, false⟩, ⟨some 10, (Op.buildSlice 38 2 #[(0, (Operand.tmp 8)), (1, (Operand.tmp 9))]), none, false⟩, ⟨some 11, (Op.buildSlice 35 2 #[(0, (Operand.const (Value.string (ByteArray.mk #[97])))), (1, (Operand.const (Value.string (ByteArray.mk #[98]))))]), none, false⟩, ⟨some 12, (Op.buildSlice 35 1 #[(0, (Operand.const (Value.string (ByteArray.mk #[100]))))]), none, false⟩, ⟨some 13, (Op.buildSlice 35 1 #[(0, (Operand.const (Value.string (ByteArray.mk #[101]))))]), none, false⟩, ⟨some 14, (Op.buildSlice 38 3 #[(0, (Operand.tmp 11)), (1, (Operand.tmp 12)), (2, (Operand.tmp 13))]), none, false⟩, ⟨some 1, (Op.assign (Operand.tmp 10)), none, false⟩, ⟨some 2, (Op.assign (Operand.tmp 14)), none, false⟩]) .ghost) (.seq (.seq .ghost (.reg [⟨some 15, (Op.move (Operand.tmp 1)), none, false⟩, ⟨some 16, (Op.move (Operand.tmp 2)), none, false⟩, ⟨some 17, (Op.call (Call.mk (Callee.value (Operand.func 10)) #[(Operand.tmp 15), (Operand.tmp 16)] #[38, 38])), none, false⟩, ⟨some 3, (Op.alloc 24), none, false⟩, ⟨none, (Op.store 24 (Operand.tmp 3) (Operand.tmp 17)), none, false⟩])) (.seq (.reg [⟨some 19, (Op.load 24 (Operand.tmp 3)), none, false⟩, ⟨some 20, (Op.call (Call.mk (Callee.value (Operand.func 6)) #[(Operand.tmp 19)] #[24])), none, false⟩, ⟨some 18, (Op.move (Operand.tmp 20)), none, false⟩, ⟨some 21, (Op.extract (Operand.tmp 18) 0), none, false⟩, ⟨some 22, (Op.extract (Operand.tmp 18) 1), none, false⟩, ⟨some 4, (Op.assign (Operand.tmp 21)), none, false⟩, ⟨some 5, (Op.assign (Operand.tmp 22)), none, false⟩]) (.seq (.reg [⟨some 24, (Op.move (Operand.tmp 1)), none, false⟩, ⟨some 25, (Op.load 24 (Operand.tmp 3)), none, false⟩, ⟨some 26, (Op.call (Call.mk (Callee.value (Operand.func 11)) #[(Operand.tmp 24), (Operand.tmp 25)] #[38, 24])), none, false⟩, ⟨some 23, (Op.move (Operand.tmp 26)), none, false⟩, ⟨some 27, (Op.extract (Operand.tmp 23) 0), none, false⟩, ⟨some 28, (Op.extract (Operand.tmp 23) 1), none, false⟩, ⟨some 6, (Op.assign (Operand.tmp 27)), none, false⟩, ⟨some 7, (Op.assign (Operand.tmp 28)), none, false⟩]) (.seq (.reg [⟨some 29, (Op.load 24 (Operand.tmp 3)), none, false⟩, ⟨some 30, (Op.buildSlice 35 1 #[(0, (Operand.const (Value.string (ByteArray.mk #[100]))))]), none, false⟩, ⟨some 31, (Op.build 37 #[(0, (Operand.const (Value.int IntKind.i64 2))), (1, (Operand.tmp 30))]), none, false⟩, ⟨some 32, (Op.buildSlice 35 1 #[(0, (Operand.const (Value.string (ByteArray.mk #[101]))))]), none, false⟩, ⟨some 33, (Op.build 37 #[(0, (Operand.const (Value.int IntKind.i64 3))), (1, (Operand.tmp 32))]), none, false⟩, ⟨some 34, (Op.buildSlice 22 2 #[(0, (Operand.tmp 31)), (1, (Operand.tmp 33))]), none, false⟩, ⟨some 35, (Op.build 24 #[(0, (Operand.const (Value.int IntKind.i64 3))), (1, (Operand.tmp 34))]), none, false⟩, ⟨some 36, (Op.call (Call.mk (Callee.value (Operand.func 8)) #[(Operand.tmp 29), (Operand.tmp 35)] #[24, 24])), none, false⟩, ⟨some 37, (Op.move (Operand.tmp 36)), none, false⟩, ⟨some 38, (Op.move (Operand.tmp 4)), (some (some 37, true)), false⟩, ⟨some 39, (Op.binOp BinOp.eql 9 (Operand.tmp 38) (Operand.const (Value.string (ByteArray.mk #[112, 97, 103, 101, 115, 32, 51, 10, 112, 97, 103, 101, 32, 50, 32, 49, 10, 62, 100, 10, 112, 97, 103, 101, 32, 51, 32, 49, 10, 62, 101, 10]))) 9), (some (some 37, true)), false⟩, ⟨some 40, (Op.pick (Operand.tmp 37) (Operand.tmp 39) (Operand.const (Value.bool false))), none, false⟩, ⟨some 41, (Op.move (Operand.tmp 40)), none, false⟩, ⟨some 42, (Op.move (Operand.tmp 5)), (some (some 41, true)), false⟩, ⟨some 43, (Op.binOp BinOp.eql 27 (Operand.tmp 42) (Operand.const (Value.int IntKind.i64 0)) 27), (some (some 41, true)), false⟩, ⟨some 44, (Op.pick (Operand.tmp 41) (Operand.tmp 43) (Operand.const (Value.bool false))), none, false⟩, ⟨some 45, (Op.move (Operand.tmp 44)), none, false⟩, ⟨some 46, (Op.move (Operand.tmp 7)), (some (some 45, true)), false⟩, ⟨some 47, (Op.binOp BinOp.eql 27 (Operand.tmp 46) (Operand.const (Value.int IntKind.i64 0)) 27), (some (some 45, true)), false⟩, ⟨some 48, (Op.pick (Operand.tmp 45) (Operand.tmp 47) (Operand.const (Value.bool false))), none, false⟩, ⟨some 49, (Op.move (Operand.tmp 48)), none, false⟩, ⟨some 50, (Op.move (Operand.tmp 6)), (some (some 49, true)), false⟩, ⟨some 51, (Op.move (Operand.tmp 2)), (some (some 49, true)), false⟩, ⟨some 52, (Op.call (Call.mk (Callee.value (Operand.func 12)) #[(Operand.tmp 50), (Operand.tmp 51)] #[38, 38])), (some (some 49, true)), false⟩, ⟨some 53, (Op.pick (Operand.tmp 49) (Operand.tmp 52) (Operand.const (Value.bool false))), none, false⟩, ⟨some 54, (Op.move (Operand.tmp 53)), none, false⟩, ⟨some 55, (Op.buildSlice 35 1 #[(0, (Operand.const (Value.string (ByteArray.mk #[97]))))]), (some (some 54, true)), false⟩, ⟨some 56, (Op.buildSlice 35 1 #[(0, (Operand.const (Value.string (ByteArray.mk #[98]))))]), (some (some 54, true)), false⟩, ⟨some 57, (Op.buildSlice 38 2 #[(0, (Operand.tmp 55)), (1, (Operand.tmp 56))]), (some (some 54, true)), false⟩, ⟨some 58, (Op.buildSlice 35 1 #[(0, (Operand.const (Value.string (ByteArray.mk #[97]))))]), (some (some 54, true)), false⟩, ⟨some 59, (Op.buildSlice 38 1 #[(0, (Operand.tmp 58))]), (some (some 54, true)), false⟩, ⟨some 60, (Op.call (Call.mk (Callee.value (Operand.func 10)) #[(Operand.tmp 57), (Operand.tmp 59)] #[38, 38])), (some (some 54, true)), false⟩, ⟨some 61, (Op.build 24 #[(0, (Operand.const (Value.int IntKind.i64 1)))]), (some (some 54, true)), false⟩, ⟨some 62, (Op.call (Call.mk (Callee.value (Operand.func 8)) #[(Operand.tmp 60), (Operand.tmp 61)] #[24, 24])), (some (some 54, true)), false⟩, ⟨some 63, (Op.pick (Operand.tmp 54) (Operand.tmp 62) (Operand.const (Value.bool false))), none, false⟩, ⟨some 64, (Op.move (Operand.tmp 63)), none, false⟩, ⟨some 65, (Op.call (Call.mk (Callee.value (Operand.func 10)) #[(Operand.const (Value.slice none 0 0)), (Operand.const (Value.slice none 0 0))] #[38, 38])), (some (some 64, true)), false⟩, ⟨some 66, (Op.build 24 #[]), (some (some 64, true)), false⟩, ⟨some 67, (Op.call (Call.mk (Callee.value (Operand.func 8)) #[(Operand.tmp 65), (Operand.tmp 66)] #[24, 24])), (some (some 64, true)), false⟩, ⟨some 68, (Op.pick (Operand.tmp 64) (Operand.tmp 67) (Operand.const (Value.bool false))), none, false⟩, ⟨some 0, (Op.assign (Operand.tmp 68)), none, false⟩]) .ret))))))
theorem body_styluslaw35_awake : Tryd.f5.body = some code_styluslaw35_awake := by kernel_rfl
theorem slim_styluslaw35_awake : slim ann_styluslaw35_awake code_styluslaw35_awake = some ac_styluslaw35_awake := by kernel_rfl
theorem name_styluslaw35_awake : (Tryd.f5.name == "runtime.NumGoroutine") = false := by kernel_rfl
theorem enter_styluslaw35_awake {args : List AV} {h : Hp} {Q : AE → Hp → Prop} (H : awp Tryd.prog tab ac_styluslaw35_awake (retQ tab [(ResultVar.tmp 0)] Q) ⟨args ++ List.replicate (69 - args.length) .any, h⟩) : ACalls Tryd.prog 5 args h Q :=
  acalls_of tab_ok mixed Tryd.func5 body_styluslaw35_awake name_styluslaw35_awake slim_styluslaw35_awake rfl Tryd.ntmps5 H
/-- stylus/styluslaw35.awake -/
def styluslaw35_awake.w (Q : Bool → Prop) : Prop :=
  patch_Of.w ([([(ByteArray.mk #[97]), (ByteArray.mk #[98])] : List ByteArray), ([(ByteArray.mk #[99])] : List ByteArray)] : List (List ByteArray)) ([([(ByteArray.mk #[97]), (ByteArray.mk #[98])] : List ByteArray), ([(ByteArray.mk #[100])] : List ByteArray), ([(ByteArray.mk #[101])] : List ByteArray)] : List (List ByteArray)) (fun r1 =>
    patch_Write.w r1 (fun r2 =>
      patch_Do.w ([([(ByteArray.mk #[97]), (ByteArray.mk #[98])] : List ByteArray), ([(ByteArray.mk #[99])] : List ByteArray)] : List (List ByteArray)) r1 (fun r3 =>
        stylusref35_Same.w r1 (⟨3, ([(⟨2, ([(ByteArray.mk #[100])] : List ByteArray)⟩ : ApiChange), (⟨3, ([(ByteArray.mk #[101])] : List ByteArray)⟩ : ApiChange)] : List ApiChange)⟩ : ApiPatch) (fun r4 =>
          if r4 = true then
            if r2.1 = (ByteArray.mk #[112, 97, 103, 101, 115, 32, 51, 10, 112, 97, 103, 101, 32, 50, 32, 49, 10, 62, 100, 10, 112, 97, 103, 101, 32, 51, 32, 49, 10, 62, 101, 10]) then
              if r2.2 = 0 then
                if r3.2 = 0 then
                  stylusref35_Pages.w r3.1 ([([(ByteArray.mk #[97]), (ByteArray.mk #[98])] : List ByteArray), ([(ByteArray.mk #[100])] : List ByteArray), ([(ByteArray.mk #[101])] : List ByteArray)] : List (List ByteArray)) (fun r5 =>
                    if r5 = true then
                      patch_Of.w ([([(ByteArray.mk #[97])] : List ByteArray), ([(ByteArray.mk #[98])] : List ByteArray)] : List (List ByteArray)) ([([(ByteArray.mk #[97])] : List ByteArray)] : List (List ByteArray)) (fun r6 =>
                        stylusref35_Same.w r6 (⟨1, ([] : List ApiChange)⟩ : ApiPatch) (fun r7 =>
                          if r7 = true then
                            patch_Of.w ([] : List (List ByteArray)) ([] : List (List ByteArray)) (fun r8 =>
                              stylusref35_Same.w r8 (⟨0, ([] : List ApiChange)⟩ : ApiPatch) (fun r9 =>
                                Q r9))
                          else
                            Q false))
                    else
                      Q false)
                else
                  Q false
              else
                Q false
            else
              Q false
          else
            Q false))))
theorem styluslaw35_awake.ok {Q : Bool → Prop} (hm : styluslaw35_awake.w Q) (h0 : Hp) : ACalls Tryd.prog n_styluslaw35_awake [] h0 (Back h0 (fun r => (abool r)) Q) := by
  refine enter_styluslaw35_awake ?_
  unfold styluslaw35_awake.w at hm
  have H := AM.Own.nil h0
  simp (maxSteps := 4000000) -implicitDefEqProofs (disch := omega) only [push_cast, Nat.reduceAdd, Nat.reduceLeDiff, Nat.reduceMul, Nat.reduceSub, Nat.reduceLT, Nat.reduceEqDiff, Int.reduceAdd, Int.reduceSub, Int.reduceLE, Int.reduceLT, Int.reduceEq, Int.reduceNe, Int.reduceToNat, Int.reduceNeg, reduceIte, reduceCtorEq, ac_styluslaw35_awake]
  refine H.newL (E := AM.encStr) ([(ByteArray.mk #[97]), (ByteArray.mk #[98])] : List ByteArray) rfl rfl (fun b1 h1 H => ?_)
  simp (maxSteps := 4000000) -implicitDefEqProofs (disch := omega) only [push_cast, Nat.reduceAdd, Nat.reduceLeDiff, Nat.reduceMul, Nat.reduceSub, Nat.reduceLT, Nat.reduceEqDiff, Int.reduceAdd, Int.reduceSub, Int.reduceLE, Int.reduceLT, Int.reduceEq, Int.reduceNe, Int.reduceToNat, Int.reduceNeg, reduceIte, reduceCtorEq]
  refine H.newL (E := AM.encStr) ([(ByteArray.mk #[99])] : List ByteArray) rfl rfl (fun b2 h2 H => ?_)
  simp (maxSteps := 4000000) -implicitDefEqProofs (disch := omega) only [push_cast, Nat.reduceAdd, Nat.reduceLeDiff, Nat.reduceMul, Nat.reduceSub, Nat.reduceLT, Nat.reduceEqDiff, Int.reduceAdd, Int.reduceSub, Int.reduceLE, Int.reduceLT, Int.reduceEq, Int.reduceNe, Int.reduceToNat, Int.reduceNeg, reduceIte, reduceCtorEq, (H.ok 0 rfl).1, (H.ok 0 rfl).2, (H.ok 1 rfl).1, (H.ok 1 rfl).2]
  refine H.newS (n := 2) (by rfl) (fun b3 h3 H => ?_)
  simp (maxSteps := 4000000) -implicitDefEqProofs (disch := omega) only [push_cast, Nat.reduceAdd, Nat.reduceLeDiff, Nat.reduceMul, Nat.reduceSub, Nat.reduceLT, Nat.reduceEqDiff, Int.reduceAdd, Int.reduceSub, Int.reduceLE, Int.reduceLT, Int.reduceEq, Int.reduceNe, Int.reduceToNat, Int.reduceNeg, reduceIte, reduceCtorEq]
  refine H.newL (E := AM.encStr) ([(ByteArray.mk #[97]), (ByteArray.mk #[98])] : List ByteArray) rfl rfl (fun b4 h4 H => ?_)
  simp (maxSteps := 4000000) -implicitDefEqProofs (disch := omega) only [push_cast, Nat.reduceAdd, Nat.reduceLeDiff, Nat.reduceMul, Nat.reduceSub, Nat.reduceLT, Nat.reduceEqDiff, Int.reduceAdd, Int.reduceSub, Int.reduceLE, Int.reduceLT, Int.reduceEq, Int.reduceNe, Int.reduceToNat, Int.reduceNeg, reduceIte, reduceCtorEq]
  refine H.newL (E := AM.encStr) ([(ByteArray.mk #[100])] : List ByteArray) rfl rfl (fun b5 h5 H => ?_)
  simp (maxSteps := 4000000) -implicitDefEqProofs (disch := omega) only [push_cast, Nat.reduceAdd, Nat.reduceLeDiff, Nat.reduceMul, Nat.reduceSub, Nat.reduceLT, Nat.reduceEqDiff, Int.reduceAdd, Int.reduceSub, Int.reduceLE, Int.reduceLT, Int.reduceEq, Int.reduceNe, Int.reduceToNat, Int.reduceNeg, reduceIte, reduceCtorEq]
  refine H.newL (E := AM.encStr) ([(ByteArray.mk #[101])] : List ByteArray) rfl rfl (fun b6 h6 H => ?_)
  simp (maxSteps := 4000000) -implicitDefEqProofs (disch := omega) only [push_cast, Nat.reduceAdd, Nat.reduceLeDiff, Nat.reduceMul, Nat.reduceSub, Nat.reduceLT, Nat.reduceEqDiff, Int.reduceAdd, Int.reduceSub, Int.reduceLE, Int.reduceLT, Int.reduceEq, Int.reduceNe, Int.reduceToNat, Int.reduceNeg, reduceIte, reduceCtorEq, (H.ok 3 rfl).1, (H.ok 3 rfl).2, (H.ok 4 rfl).1, (H.ok 4 rfl).2, (H.ok 5 rfl).1, (H.ok 5 rfl).2]
  refine H.newS (n := 3) (by rfl) (fun b7 h7 H => ?_)
  simp (maxSteps := 4000000) -implicitDefEqProofs (disch := omega) only [push_cast, Nat.reduceAdd, Nat.reduceLeDiff, Nat.reduceMul, Nat.reduceSub, Nat.reduceLT, Nat.reduceEqDiff, Int.reduceAdd, Int.reduceSub, Int.reduceLE, Int.reduceLT, Int.reduceEq, Int.reduceNe, Int.reduceToNat, Int.reduceNeg, reduceIte, reduceCtorEq]
  obtain ⟨h8, q1, H⟩ := H.cell 2 0 (by decide) 0 0 rfl rfl rfl rfl
  obtain ⟨h9, q2, H⟩ := H.cell 2 1 (by decide) 1 0 rfl rfl rfl rfl
  replace H : AM.Own h0 h9 [dead, dead, ⟨(.osl b3 1 0 2), false, 1, ([([(ByteArray.mk #[97]), (ByteArray.mk #[98])] : List ByteArray), ([(ByteArray.mk #[99])] : List ByteArray)] : List (List ByteArray)).map (encSl 1 AM.encStr), some (35, 0)⟩, ⟨(.osl b4 1 0 2), false, 1, ([(ByteArray.mk #[97]), (ByteArray.mk #[98])] : List ByteArray).map AM.encStr, some (9, 0)⟩, ⟨(.osl b5 1 0 1), false, 1, ([(ByteArray.mk #[100])] : List ByteArray).map AM.encStr, some (9, 0)⟩, ⟨(.osl b6 1 0 1), false, 1, ([(ByteArray.mk #[101])] : List ByteArray).map AM.encStr, some (9, 0)⟩, ⟨(.osl b7 1 0 3), false, 1, [[(.osl b4 1 0 2)], [(.osl b5 1 0 1)], [(.osl b6 1 0 1)]], some (35, 0)⟩] := H
  obtain ⟨h10, q3, H⟩ := H.cell 6 3 (by decide) 0 0 rfl rfl rfl rfl
  obtain ⟨h11, q4, H⟩ := H.cell 6 4 (by decide) 1 0 rfl rfl rfl rfl
  obtain ⟨h12, q5, H⟩ := H.cell 6 5 (by decide) 2 0 rfl rfl rfl rfl
  replace H : AM.Own h0 h12 [dead, dead, ⟨(.osl b3 1 0 2), false, 1, ([([(ByteArray.mk #[97]), (ByteArray.mk #[98])] : List ByteArray), ([(ByteArray.mk #[99])] : List ByteArray)] : List (List ByteArray)).map (encSl 1 AM.encStr), some (35, 0)⟩, dead, dead, dead, ⟨(.osl b7 1 0 3), false, 1, ([([(ByteArray.mk #[97]), (ByteArray.mk #[98])] : List ByteArray), ([(ByteArray.mk #[100])] : List ByteArray), ([(ByteArray.mk #[101])] : List ByteArray)] : List (List ByteArray)).map (encSl 1 AM.encStr), some (35, 0)⟩] := H
  refine awp_ghost' _ (Hs.retell (Hs.trans q1 (Hs.trans q2 (Hs.trans q3 (Hs.trans q4 q5)))) _) ?_
  simp (maxSteps := 4000000) -implicitDefEqProofs (disch := omega) only [push_cast, Nat.reduceAdd, Nat.reduceLeDiff, Nat.reduceMul, Nat.reduceSub, Nat.reduceLT, Nat.reduceEqDiff, Int.reduceAdd, Int.reduceSub, Int.reduceLE, Int.reduceLT, Int.reduceEq, Int.reduceNe, Int.reduceToNat, Int.reduceNeg, reduceIte, reduceCtorEq]
  obtain ⟨h13, s1, H⟩ := H.freeze 2 rfl
  replace H : AM.Own h0 h13 [dead, dead, dead, dead, dead, dead, ⟨(.osl b7 1 0 3), false, 1, ([([(ByteArray.mk #[97]), (ByteArray.mk #[98])] : List ByteArray), ([(ByteArray.mk #[100])] : List ByteArray), ([(ByteArray.mk #[101])] : List ByteArray)] : List (List ByteArray)).map (encSl 1 AM.encStr), some (35, 0)⟩] := H
  obtain ⟨h14, s2, H⟩ := H.freeze 6 rfl
  replace H : AM.Own h0 h14 [dead, dead, dead, dead, dead, dead, dead] := H
  refine awp_ghost' _ ((Retell.slot (k := 1) rfl s1).trans (Retell.slot (k := 2) rfl s2)) ?_
  simp (maxSteps := 4000000) -implicitDefEqProofs (disch := omega) only [push_cast, Nat.reduceAdd, Nat.reduceLeDiff, Nat.reduceMul, Nat.reduceSub, Nat.reduceLT, Nat.reduceEqDiff, Int.reduceAdd, Int.reduceSub, Int.reduceLE, Int.reduceLT, Int.reduceEq, Int.reduceNe, Int.reduceToNat, Int.reduceNeg, reduceIte, reduceCtorEq]
  refine calls_w (fun h => patch_Of.ok hm h) (fun r1 hm => ?_)
  simp (maxSteps := 4000000) -implicitDefEqProofs (disch := omega) only [push_cast, Nat.reduceAdd, Nat.reduceLeDiff, Nat.reduceMul, Nat.reduceSub, Nat.reduceLT, Nat.reduceEqDiff, Int.reduceAdd, Int.reduceSub, Int.reduceLE, Int.reduceLT, Int.reduceEq, Int.reduceNe, Int.reduceToNat, Int.reduceNeg, reduceIte, reduceCtorEq]
  refine H.newR [(aint 0), anil] rfl (fun b8 h15 H => ?_)
  have e7 := H.getP 7 rfl
  simp (maxSteps := 4000000) -implicitDefEqProofs (disch := omega) only [push_cast, Nat.reduceAdd, Nat.reduceLeDiff, Nat.reduceMul, Nat.reduceSub, Nat.reduceLT, Nat.reduceEqDiff, Int.reduceAdd, Int.reduceSub, Int.reduceLE, Int.reduceLT, Int.reduceEq, Int.reduceNe, Int.reduceToNat, Int.reduceNeg, reduceIte, reduceCtorEq, e7]
  refine H.stP 7 (ApiPatch.enc r1) rfl rfl rfl rfl (Nat.le_of_ble_eq_true rfl) rfl (fun h16 H => ?_)
  have e7 := H.getP 7 rfl
  simp (maxSteps := 4000000) -implicitDefEqProofs (disch := omega) only [push_cast, Nat.reduceAdd, Nat.reduceLeDiff, Nat.reduceMul, Nat.reduceSub, Nat.reduceLT, Nat.reduceEqDiff, Int.reduceAdd, Int.reduceSub, Int.reduceLE, Int.reduceLT, Int.reduceEq, Int.reduceNe, Int.reduceToNat, Int.reduceNeg, reduceIte, reduceCtorEq, e7]
  refine calls_w (fun h => patch_Write.ok hm h) (fun r2 hm => ?_)
  have e7 := H.getP 7 rfl
  simp (maxSteps := 4000000) -implicitDefEqProofs (disch := omega) only [push_cast, Nat.reduceAdd, Nat.reduceLeDiff, Nat.reduceMul, Nat.reduceSub, Nat.reduceLT, Nat.reduceEqDiff, Int.reduceAdd, Int.reduceSub, Int.reduceLE, Int.reduceLT, Int.reduceEq, Int.reduceNe, Int.reduceToNat, Int.reduceNeg, reduceIte, reduceCtorEq, e7]
  refine calls_w (fun h => patch_Do.ok hm h) (fun r3 hm => ?_)
  have e7 := H.getP 7 rfl
  simp (maxSteps := 4000000) -implicitDefEqProofs (disch := omega) only [push_cast, Nat.reduceAdd, Nat.reduceLeDiff, Nat.reduceMul, Nat.reduceSub, Nat.reduceLT, Nat.reduceEqDiff, Int.reduceAdd, Int.reduceSub, Int.reduceLE, Int.reduceLT, Int.reduceEq, Int.reduceNe, Int.reduceToNat, Int.reduceNeg, reduceIte, reduceCtorEq, e7]
  refine H.newL (E := AM.encStr) ([(ByteArray.mk #[100])] : List ByteArray) rfl rfl (fun b9 h17 H => ?_)
  have e7 := H.getP 7 rfl
  simp (maxSteps := 4000000) -implicitDefEqProofs (disch := omega) only [push_cast, Nat.reduceAdd, Nat.reduceLeDiff, Nat.reduceMul, Nat.reduceSub, Nat.reduceLT, Nat.reduceEqDiff, Int.reduceAdd, Int.reduceSub, Int.reduceLE, Int.reduceLT, Int.reduceEq, Int.reduceNe, Int.reduceToNat, Int.reduceNeg, reduceIte, reduceCtorEq, e7]
  refine H.newL (E := AM.encStr) ([(ByteArray.mk #[101])] : List ByteArray) rfl rfl (fun b10 h18 H => ?_)
  have e7 := H.getP 7 rfl
  simp (maxSteps := 4000000) -implicitDefEqProofs (disch := omega) only [push_cast, Nat.reduceAdd, Nat.reduceLeDiff, Nat.reduceMul, Nat.reduceSub, Nat.reduceLT, Nat.reduceEqDiff, Int.reduceAdd, Int.reduceSub, Int.reduceLE, Int.reduceLT, Int.reduceEq, Int.reduceNe, Int.reduceToNat, Int.reduceNeg, reduceIte, reduceCtorEq, (H.ok 8 rfl).1, (H.ok 8 rfl).2, (H.ok 9 rfl).1, (H.ok 9 rfl).2, e7]
  refine H.newS (n := 2) (by rfl) (fun b11 h19 H => ?_)
  have e7 := H.getP 7 rfl
  simp (maxSteps := 4000000) -implicitDefEqProofs (disch := omega) only [push_cast, Nat.reduceAdd, Nat.reduceLeDiff, Nat.reduceMul, Nat.reduceSub, Nat.reduceLT, Nat.reduceEqDiff, Int.reduceAdd, Int.reduceSub, Int.reduceLE, Int.reduceLT, Int.reduceEq, Int.reduceNe, Int.reduceToNat, Int.reduceNeg, reduceIte, reduceCtorEq, e7]
  obtain ⟨h20, q6, H⟩ := H.cell 10 8 (by decide) 0 1 rfl rfl rfl rfl
  obtain ⟨h21, q7, H⟩ := H.cell 10 9 (by decide) 1 1 rfl rfl rfl rfl
  replace H : AM.Own h0 h21 [dead, dead, dead, dead, dead, dead, dead, ⟨(.optr b8 2 0 0), true, 2, [(ApiPatch.enc r1)], some (24, 2)⟩, dead, dead, ⟨(.osl b11 2 0 2), false, 2, ([(⟨2, ([(ByteArray.mk #[100])] : List ByteArray)⟩ : ApiChange), (⟨3, ([(ByteArray.mk #[101])] : List ByteArray)⟩ : ApiChange)] : List ApiChange).map ApiChange.enc, some (37, 0)⟩] := H
  obtain ⟨h22, s3, H⟩ := H.freeze 10 rfl
  replace H : AM.Own h0 h22 [dead, dead, dead, dead, dead, dead, dead, ⟨(.optr b8 2 0 0), true, 2, [(ApiPatch.enc r1)], some (24, 2)⟩, dead, dead, dead] := H
  refine calls_fw (((q6.shifts _).trans (q7.shifts _)).trans (Shifts.at (Shift.agg s3 [_] []) [_] [])) (fun h => stylusref35_Same.ok hm h) (fun r4 hm => ?_)
  have e7 := H.getP 7 rfl
  simp (maxSteps := 4000000) -implicitDefEqProofs (disch := omega) only [push_cast, Nat.reduceAdd, Nat.reduceLeDiff, Nat.reduceMul, Nat.reduceSub, Nat.reduceLT, Nat.reduceEqDiff, Int.reduceAdd, Int.reduceSub, Int.reduceLE, Int.reduceLT, Int.reduceEq, Int.reduceNe, Int.reduceToNat, Int.reduceNeg, reduceIte, reduceCtorEq, e7]
  rw [gfork_bool]
  refine ⟨fun c1 => ?_, fun c1 => ?_⟩
  · replace hm := ifp hm c1
    have e7 := H.getP 7 rfl
    simp (maxSteps := 4000000) -implicitDefEqProofs (disch := omega) only [push_cast, Nat.reduceAdd, Nat.reduceLeDiff, Nat.reduceMul, Nat.reduceSub, Nat.reduceLT, Nat.reduceEqDiff, Int.reduceAdd, Int.reduceSub, Int.reduceLE, Int.reduceLT, Int.reduceEq, Int.reduceNe, Int.reduceToNat, Int.reduceNeg, reduceIte, reduceCtorEq, c1, e7]
    rw [gfork_cond]
    refine ⟨fun c2 => ?_, fun c2 => ?_⟩
    · replace hm := ifp hm c2
      have e7 := H.getP 7 rfl
      simp (maxSteps := 4000000) -implicitDefEqProofs (disch := omega) only [push_cast, Nat.reduceAdd, Nat.reduceLeDiff, Nat.reduceMul, Nat.reduceSub, Nat.reduceLT, Nat.reduceEqDiff, Int.reduceAdd, Int.reduceSub, Int.reduceLE, Int.reduceLT, Int.reduceEq, Int.reduceNe, Int.reduceToNat, Int.reduceNeg, reduceIte, reduceCtorEq, c1, eq_true c2, e7]
      rw [gfork_cond]
      refine ⟨fun c3 => ?_, fun c3 => ?_⟩
      · replace hm := ifp hm c3
        have e7 := H.getP 7 rfl
        simp (maxSteps := 4000000) -implicitDefEqProofs (disch := omega) only [push_cast, Nat.reduceAdd, Nat.reduceLeDiff, Nat.reduceMul, Nat.reduceSub, Nat.reduceLT, Nat.reduceEqDiff, Int.reduceAdd, Int.reduceSub, Int.reduceLE, Int.reduceLT, Int.reduceEq, Int.reduceNe, Int.reduceToNat, Int.reduceNeg, reduceIte, reduceCtorEq, c1, eq_true c2, eq_true c3, e7]
        rw [gfork_cond]
        refine ⟨fun c4 => ?_, fun c4 => ?_⟩
        · replace hm := ifp hm c4
          have e7 := H.getP 7 rfl
          simp (maxSteps := 4000000) -implicitDefEqProofs (disch := omega) only [push_cast, Nat.reduceAdd, Nat.reduceLeDiff, Nat.reduceMul, Nat.reduceSub, Nat.reduceLT, Nat.reduceEqDiff, Int.reduceAdd, Int.reduceSub, Int.reduceLE, Int.reduceLT, Int.reduceEq, Int.reduceNe, Int.reduceToNat, Int.reduceNeg, reduceIte, reduceCtorEq, c1, eq_true c2, eq_true c3, eq_true c4, e7]
          refine calls_w (fun h => stylusref35_Pages.ok hm h) (fun r5 hm => ?_)
          have e7 := H.getP 7 rfl
          simp (maxSteps := 4000000) -implicitDefEqProofs (disch := omega) only [push_cast, Nat.reduceAdd, Nat.reduceLeDiff, Nat.reduceMul, Nat.reduceSub, Nat.reduceLT, Nat.reduceEqDiff, Int.reduceAdd, Int.reduceSub, Int.reduceLE, Int.reduceLT, Int.reduceEq, Int.reduceNe, Int.reduceToNat, Int.reduceNeg, reduceIte, reduceCtorEq, c1, eq_true c2, eq_true c3, eq_true c4, e7]
          rw [gfork_bool]
          refine ⟨fun c5 => ?_, fun c5 => ?_⟩
          · replace hm := ifp hm c5
            have e7 := H.getP 7 rfl
            simp (maxSteps := 4000000) -implicitDefEqProofs (disch := omega) only [push_cast, Nat.reduceAdd, Nat.reduceLeDiff, Nat.reduceMul, Nat.reduceSub, Nat.reduceLT, Nat.reduceEqDiff, Int.reduceAdd, Int.reduceSub, Int.reduceLE, Int.reduceLT, Int.reduceEq, Int.reduceNe, Int.reduceToNat, Int.reduceNeg, reduceIte, reduceCtorEq, c1, eq_true c2, eq_true c3, eq_true c4, c5, e7]
            refine H.newL (E := AM.encStr) ([(ByteArray.mk #[97])] : List ByteArray) rfl rfl (fun b12 h23 H => ?_)
            have e7 := H.getP 7 rfl
            simp (maxSteps := 4000000) -implicitDefEqProofs (disch := omega) only [push_cast, Nat.reduceAdd, Nat.reduceLeDiff, Nat.reduceMul, Nat.reduceSub, Nat.reduceLT, Nat.reduceEqDiff, Int.reduceAdd, Int.reduceSub, Int.reduceLE, Int.reduceLT, Int.reduceEq, Int.reduceNe, Int.reduceToNat, Int.reduceNeg, reduceIte, reduceCtorEq, c1, eq_true c2, eq_true c3, eq_true c4, c5, e7]
            refine H.newL (E := AM.encStr) ([(ByteArray.mk #[98])] : List ByteArray) rfl rfl (fun b13 h24 H => ?_)
            have e7 := H.getP 7 rfl
            simp (maxSteps := 4000000) -implicitDefEqProofs (disch := omega) only [push_cast, Nat.reduceAdd, Nat.reduceLeDiff, Nat.reduceMul, Nat.reduceSub, Nat.reduceLT, Nat.reduceEqDiff, Int.reduceAdd, Int.reduceSub, Int.reduceLE, Int.reduceLT, Int.reduceEq, Int.reduceNe, Int.reduceToNat, Int.reduceNeg, reduceIte, reduceCtorEq, c1, eq_true c2, eq_true c3, eq_true c4, c5, (H.ok 11 rfl).1, (H.ok 11 rfl).2, (H.ok 12 rfl).1, (H.ok 12 rfl).2, e7]
            refine H.newS (n := 2) (by rfl) (fun b14 h25 H => ?_)
            have e7 := H.getP 7 rfl
            simp (maxSteps := 4000000) -implicitDefEqProofs (disch := omega) only [push_cast, Nat.reduceAdd, Nat.reduceLeDiff, Nat.reduceMul, Nat.reduceSub, Nat.reduceLT, Nat.reduceEqDiff, Int.reduceAdd, Int.reduceSub, Int.reduceLE, Int.reduceLT, Int.reduceEq, Int.reduceNe, Int.reduceToNat, Int.reduceNeg, reduceIte, reduceCtorEq, c1, eq_true c2, eq_true c3, eq_true c4, c5, e7]
            refine H.newL (E := AM.encStr) ([(ByteArray.mk #[97])] : List ByteArray) rfl rfl (fun b15 h26 H => ?_)
            have e7 := H.getP 7 rfl
            simp (maxSteps := 4000000) -implicitDefEqProofs (disch := omega) only [push_cast, Nat.reduceAdd, Nat.reduceLeDiff, Nat.reduceMul, Nat.reduceSub, Nat.reduceLT, Nat.reduceEqDiff, Int.reduceAdd, Int.reduceSub, Int.reduceLE, Int.reduceLT, Int.reduceEq, Int.reduceNe, Int.reduceToNat, Int.reduceNeg, reduceIte, reduceCtorEq, c1, eq_true c2, eq_true c3, eq_true c4, c5, (H.ok 14 rfl).1, (H.ok 14 rfl).2, e7]
            refine H.newS (n := 1) (by rfl) (fun b16 h27 H => ?_)
            have e7 := H.getP 7 rfl
            simp (maxSteps := 4000000) -implicitDefEqProofs (disch := omega) only [push_cast, Nat.reduceAdd, Nat.reduceLeDiff, Nat.reduceMul, Nat.reduceSub, Nat.reduceLT, Nat.reduceEqDiff, Int.reduceAdd, Int.reduceSub, Int.reduceLE, Int.reduceLT, Int.reduceEq, Int.reduceNe, Int.reduceToNat, Int.reduceNeg, reduceIte, reduceCtorEq, c1, eq_true c2, eq_true c3, eq_true c4, c5, e7]
            obtain ⟨h28, q8, H⟩ := H.cell 13 11 (by decide) 0 0 rfl rfl rfl rfl
            obtain ⟨h29, q9, H⟩ := H.cell 13 12 (by decide) 1 0 rfl rfl rfl rfl
            replace H : AM.Own h0 h29 [dead, dead, dead, dead, dead, dead, dead, ⟨(.optr b8 2 0 0), true, 2, [(ApiPatch.enc r1)], some (24, 2)⟩, dead, dead, dead, dead, dead, ⟨(.osl b14 1 0 2), false, 1, ([([(ByteArray.mk #[97])] : List ByteArray), ([(ByteArray.mk #[98])] : List ByteArray)] : List (List ByteArray)).map (encSl 1 AM.encStr), some (35, 0)⟩, ⟨(.osl b15 1 0 1), false, 1, ([(ByteArray.mk #[97])] : List ByteArray).map AM.encStr, some (9, 0)⟩, ⟨(.osl b16 1 0 1), false, 1, [[(.osl b15 1 0 1)]], some (35, 0)⟩] := H
            obtain ⟨h30, s4, H⟩ := H.freeze 13 rfl
            replace H : AM.Own h0 h30 [dead, dead, dead, dead, dead, dead, dead, ⟨(.optr b8 2 0 0), true, 2, [(ApiPatch.enc r1)], some (24, 2)⟩, dead, dead, dead, dead, dead, dead, ⟨(.osl b15 1 0 1), false, 1, ([(ByteArray.mk #[97])] : List ByteArray).map AM.encStr, some (9, 0)⟩, ⟨(.osl b16 1 0 1), false, 1, [[(.osl b15 1 0 1)]], some (35, 0)⟩] := H
            obtain ⟨h31, q10, H⟩ := H.cell 15 14 (by decide) 0 0 rfl rfl rfl rfl
            replace H : AM.Own h0 h31 [dead, dead, dead, dead, dead, dead, dead, ⟨(.optr b8 2 0 0), true, 2, [(ApiPatch.enc r1)], some (24, 2)⟩, dead, dead, dead, dead, dead, dead, dead, ⟨(.osl b16 1 0 1), false, 1, ([([(ByteArray.mk #[97])] : List ByteArray)] : List (List ByteArray)).map (encSl 1 AM.encStr), some (35, 0)⟩] := H
            obtain ⟨h32, s5, H⟩ := H.freeze 15 rfl
            replace H : AM.Own h0 h32 [dead, dead, dead, dead, dead, dead, dead, ⟨(.optr b8 2 0 0), true, 2, [(ApiPatch.enc r1)], some (24, 2)⟩, dead, dead, dead, dead, dead, dead, dead, dead] := H
            refine calls_fw (((((q8.shifts _).trans (q9.shifts _)).trans (Shifts.at s4 [] [_])).trans (q10.shifts _)).trans (Shifts.at s5 [_] [])) (fun h => patch_Of.ok hm h) (fun r6 hm => ?_)
            have e7 := H.getP 7 rfl
            simp (maxSteps := 4000000) -implicitDefEqProofs (disch := omega) only [push_cast, Nat.reduceAdd, Nat.reduceLeDiff, Nat.reduceMul, Nat.reduceSub, Nat.reduceLT, Nat.reduceEqDiff, Int.reduceAdd, Int.reduceSub, Int.reduceLE, Int.reduceLT, Int.reduceEq, Int.reduceNe, Int.reduceToNat, Int.reduceNeg, reduceIte, reduceCtorEq, c1, eq_true c2, eq_true c3, eq_true c4, c5, e7]
            refine calls_fw (Shifts.at (Shift.agg (Shift.nil _ 2) [_] []) [_] []) (fun h => stylusref35_Same.ok hm h) (fun r7 hm => ?_)
            have e7 := H.getP 7 rfl
            simp (maxSteps := 4000000) -implicitDefEqProofs (disch := omega) only [push_cast, Nat.reduceAdd, Nat.reduceLeDiff, Nat.reduceMul, Nat.reduceSub, Nat.reduceLT, Nat.reduceEqDiff, Int.reduceAdd, Int.reduceSub, Int.reduceLE, Int.reduceLT, Int.reduceEq, Int.reduceNe, Int.reduceToNat, Int.reduceNeg, reduceIte, reduceCtorEq, c1, eq_true c2, eq_true c3, eq_true c4, c5, e7]
            rw [gfork_bool]
            refine ⟨fun c6 => ?_, fun c6 => ?_⟩
            · replace hm := ifp hm c6
              have e7 := H.getP 7 rfl
              simp (maxSteps := 4000000) -implicitDefEqProofs (disch := omega) only [push_cast, Nat.reduceAdd, Nat.reduceLeDiff, Nat.reduceMul, Nat.reduceSub, Nat.reduceLT, Nat.reduceEqDiff, Int.reduceAdd, Int.reduceSub, Int.reduceLE, Int.reduceLT, Int.reduceEq, Int.reduceNe, Int.reduceToNat, Int.reduceNeg, reduceIte, reduceCtorEq, c1, eq_true c2, eq_true c3, eq_true c4, c5, c6, e7]
              refine calls_fw ((Shifts.at (Shift.nil _ 1) [] [_]).trans (Shifts.at (Shift.nil _ 1) [_] [])) (fun h => patch_Of.ok hm h) (fun r8 hm => ?_)
              have e7 := H.getP 7 rfl
              simp (maxSteps := 4000000) -implicitDefEqProofs (disch := omega) only [push_cast, Nat.reduceAdd, Nat.reduceLeDiff, Nat.reduceMul, Nat.reduceSub, Nat.reduceLT, Nat.reduceEqDiff, Int.reduceAdd, Int.reduceSub, Int.reduceLE, Int.reduceLT, Int.reduceEq, Int.reduceNe, Int.reduceToNat, Int.reduceNeg, reduceIte, reduceCtorEq, c1, eq_true c2, eq_true c3, eq_true c4, c5, c6, e7]
              refine calls_fw (Shifts.at (Shift.agg (Shift.nil _ 2) [_] []) [_] []) (fun h => stylusref35_Same.ok hm h) (fun r9 hm => ?_)
              have e7 := H.getP 7 rfl
              simp (maxSteps := 4000000) -implicitDefEqProofs (disch := omega) only [push_cast, Nat.reduceAdd, Nat.reduceLeDiff, Nat.reduceMul, Nat.reduceSub, Nat.reduceLT, Nat.reduceEqDiff, Int.reduceAdd, Int.reduceSub, Int.reduceLE, Int.reduceLT, Int.reduceEq, Int.reduceNe, Int.reduceToNat, Int.reduceNeg, reduceIte, reduceCtorEq, c1, eq_true c2, eq_true c3, eq_true c4, c5, c6, e7]
              exact retQ_back (.inl rfl) r9 _ rfl (Shift.refl _ _) H.sub hm
            · replace hm := ifn hm (by rw [c6]; exact Bool.false_ne_true)
              have e7 := H.getP 7 rfl
              simp (maxSteps := 4000000) -implicitDefEqProofs (disch := omega) only [push_cast, Nat.reduceAdd, Nat.reduceLeDiff, Nat.reduceMul, Nat.reduceSub, Nat.reduceLT, Nat.reduceEqDiff, Int.reduceAdd, Int.reduceSub, Int.reduceLE, Int.reduceLT, Int.reduceEq, Int.reduceNe, Int.reduceToNat, Int.reduceNeg, reduceIte, reduceCtorEq, c1, eq_true c2, eq_true c3, eq_true c4, c5, c6, e7]
              exact retQ_back (.inl rfl) false _ rfl (Shift.refl _ _) H.sub hm
          · replace hm := ifn hm (by rw [c5]; exact Bool.false_ne_true)
            have e7 := H.getP 7 rfl
            simp (maxSteps := 4000000) -implicitDefEqProofs (disch := omega) only [push_cast, Nat.reduceAdd, Nat.reduceLeDiff, Nat.reduceMul, Nat.reduceSub, Nat.reduceLT, Nat.reduceEqDiff, Int.reduceAdd, Int.reduceSub, Int.reduceLE, Int.reduceLT, Int.reduceEq, Int.reduceNe, Int.reduceToNat, Int.reduceNeg, reduceIte, reduceCtorEq, c1, eq_true c2, eq_true c3, eq_true c4, c5, e7]
            exact retQ_back (.inl rfl) false _ rfl (Shift.refl _ _) H.sub hm
        · replace hm := ifn hm c4
          have e7 := H.getP 7 rfl
          simp (maxSteps := 4000000) -implicitDefEqProofs (disch := omega) only [push_cast, Nat.reduceAdd, Nat.reduceLeDiff, Nat.reduceMul, Nat.reduceSub, Nat.reduceLT, Nat.reduceEqDiff, Int.reduceAdd, Int.reduceSub, Int.reduceLE, Int.reduceLT, Int.reduceEq, Int.reduceNe, Int.reduceToNat, Int.reduceNeg, reduceIte, reduceCtorEq, c1, eq_true c2, eq_true c3, eq_false c4, e7]
          exact retQ_back (.inl rfl) false _ rfl (Shift.refl _ _) H.sub hm
      · replace hm := ifn hm c3
        have e7 := H.getP 7 rfl
        simp (maxSteps := 4000000) -implicitDefEqProofs (disch := omega) only [push_cast, Nat.reduceAdd, Nat.reduceLeDiff, Nat.reduceMul, Nat.reduceSub, Nat.reduceLT, Nat.reduceEqDiff, Int.reduceAdd, Int.reduceSub, Int.reduceLE, Int.reduceLT, Int.reduceEq, Int.reduceNe, Int.reduceToNat, Int.reduceNeg, reduceIte, reduceCtorEq, c1, eq_true c2, eq_false c3, e7]
        exact retQ_back (.inl rfl) false _ rfl (Shift.refl _ _) H.sub hm
    · replace hm := ifn hm c2
      have e7 := H.getP 7 rfl
      simp (maxSteps := 4000000) -implicitDefEqProofs (disch := omega) only [push_cast, Nat.reduceAdd, Nat.reduceLeDiff, Nat.reduceMul, Nat.reduceSub, Nat.reduceLT, Nat.reduceEqDiff, Int.reduceAdd, Int.reduceSub, Int.reduceLE, Int.reduceLT, Int.reduceEq, Int.reduceNe, Int.reduceToNat, Int.reduceNeg, reduceIte, reduceCtorEq, c1, eq_false c2, e7]
      exact retQ_back (.inl rfl) false _ rfl (Shift.refl _ _) H.sub hm
  · replace hm := ifn hm (by rw [c1]; exact Bool.false_ne_true)
    have e7 := H.getP 7 rfl
    simp (maxSteps := 4000000) -implicitDefEqProofs (disch := omega) only [push_cast, Nat.reduceAdd, Nat.reduceLeDiff, Nat.reduceMul, Nat.reduceSub, Nat.reduceLT, Nat.reduceEqDiff, Int.reduceAdd, Int.reduceSub, Int.reduceLE, Int.reduceLT, Int.reduceEq, Int.reduceNe, Int.reduceToNat, Int.reduceNeg, reduceIte, reduceCtorEq, c1, e7]
    exact retQ_back (.inl rfl) false _ rfl (Shift.refl _ _) H.sub hm
end Go.Proofs.YtggcmnoacplbkaaDoor
