/- Functions of the program: code, what is asked for their answers, the walk (printed by pr.py). -/
import Derived.Test.YtlnjajfagildnaaDoorDat
namespace Go.Proofs.YtlnjajfagildnaaDoor
open Go Go.Proofs.YtlnjajfagildnaaDoor.AM
set_option maxRecDepth 100000
set_option linter.unusedSimpArgs false
set_option linter.unusedVariables false
set_option maxHeartbeats 4000000
/-! stylus/stylusref35.Lines -/
abbrev n_stylusref35_Lines : Nat := 17
noncomputable def code_stylusref35_Lines : Code := match Tryd.f17.body with | some c => c | none => .skip
def ann_stylusref35_Lines : Nat → Ann
  | 6 => { pure := [], plan := (.op 0 (.op 1 (.op 2 (.op 3 (.op 4 (.op 5 (.op 6 (.op 7 (.op 8 .done))))))))), ghost := false, post := false }
  | _ => {}
noncomputable def ac_stylusref35_Lines : AC :=
  (.seq (.reg [⟨some 4, (Op.assign (Operand.const (Value.bool false))), none, false⟩]) (.seq (.seq (.reg [⟨some 6, (Op.move (Operand.tmp 0)), none, false⟩, ⟨some 7, (Op.call (Call.mk (Callee.builtin Builtin.len) #[(Operand.tmp 6)] #[38])), none, false⟩, ⟨some 8, (Op.move (Operand.tmp 1)), none, false⟩, ⟨some 9, (Op.call (Call.mk (Callee.builtin Builtin.len) #[(Operand.tmp 8)] #[38])), none, false⟩, ⟨some 10, (Op.binOp BinOp.neq 3 (Operand.tmp 7) (Operand.tmp 9) 3), none, false⟩]) (.cond (Operand.tmp 10) (.seq (.reg [⟨some 4, (Op.assign (Operand.const (Value.bool false))), none, false⟩]) .ret) .skip)) (.seq (.seq (.reg [⟨some 5, (Op.assign (Operand.const (Value.int IntKind.i64 0))), none, false⟩]) (.block 0 (.loop (.seq (.seq (.reg [⟨some 11, (Op.move (Operand.tmp 5)), none, false⟩, ⟨some 12, (Op.move (Operand.tmp 0)), none, false⟩, ⟨some 13, (Op.call (Call.mk (Callee.builtin Builtin.len) #[(Operand.tmp 12)] #[38])), none, false⟩, ⟨some 14, (Op.binOp BinOp.lss 3 (Operand.tmp 11) (Operand.tmp 13) 3), none, false⟩]) (.cond (Operand.tmp 14) .skip (.exit 0))) (.seq (.block 1 (.seq (.draw [⟨some 17, (Op.move (Operand.tmp 0)), none, false⟩, ⟨some 18, (Op.move (Operand.tmp 5)), none, false⟩, ⟨some 19, (Op.indexAddr 38 (Operand.tmp 17) (Operand.tmp 18)), none, false⟩, ⟨some 20, (Op.load 9 (Operand.tmp 19)), none, false⟩, ⟨some 21, (Op.move (Operand.tmp 1)), none, false⟩, ⟨some 22, (Op.move (Operand.tmp 5)), none, false⟩, ⟨some 23, (Op.indexAddr 38 (Operand.tmp 21) (Operand.tmp 22)), none, false⟩, ⟨some 24, (Op.load 9 (Operand.tmp 23)), none, false⟩, ⟨some 25, (Op.binOp BinOp.neq 9 (Operand.tmp 20) (Operand.tmp 24) 9), none, false⟩] (.op 0 (.op 1 (.op 2 (.op 3 (.op 4 (.op 5 (.op 6 (.op 7 (.op 8 .done)))))))))) (.cond (Operand.tmp 25) (.seq (.reg [⟨some 4, (Op.assign (Operand.const (Value.bool false))), none, false⟩]) .ret) .skip))) (.reg [⟨some 15, (Op.move (Operand.tmp 5)), none, false⟩, ⟨some 16, (Op.binOp BinOp.add 3 (Operand.tmp 15) (Operand.const (Value.int IntKind.i64 1)) 3), none, false⟩, ⟨some 5, (Op.assign (Operand.tmp 16)), none, false⟩])))))) (.seq (.reg [⟨some 4, (Op.assign (Operand.const (Value.bool true))), none, false⟩]) .ret))))
theorem body_stylusref35_Lines : Tryd.f17.body = some code_stylusref35_Lines := by kernel_rfl
theorem slim_stylusref35_Lines : slim ann_stylusref35_Lines code_stylusref35_Lines = some ac_stylusref35_Lines := by kernel_rfl
theorem name_stylusref35_Lines : (Tryd.f17.name == "runtime.NumGoroutine") = false := by kernel_rfl
theorem enter_stylusref35_Lines {args : List AV} {h : Hp} {Q : AE → Hp → Prop} (H : awp Tryd.prog tab ac_stylusref35_Lines (retQ tab [(ResultVar.tmp 4)] Q) ⟨args ++ List.replicate (26 - args.length) .any, h⟩) : ACalls Tryd.prog 17 args h Q :=
  acalls_of tab_ok mixed Tryd.func17 body_stylusref35_Lines name_stylusref35_Lines slim_stylusref35_Lines rfl Tryd.ntmps17 H
/-- stylus/stylusref35.Lines -/
def stylusref35_Lines.w (a0_ : List ByteArray) (a1_ : List ByteArray) (Q : Bool → Prop) : Prop :=
  if (a0_.length : Int) = (a1_.length : Int) then
    wloop (σ := Int) (fun a1 next1 =>
      if a1 < (a0_.length : Int) then
        (0 ≤ a1) ∧
        ∃ v1 : ByteArray, a0_[a1.toNat]? = some v1 ∧
        ∃ v2 : ByteArray, a1_[a1.toNat]? = some v2 ∧
        if v1 = v2 then
          (I64 (a1 + 1)) ∧
          next1 (a1 + 1)
        else
          Q false
      else
        Q true) 0
  else
    Q false
theorem stylusref35_Lines.ok {a0_ : List ByteArray} {a1_ : List ByteArray} {Q : Bool → Prop} (hm : stylusref35_Lines.w a0_ a1_ Q) (h0 : Hp) : ACalls Tryd.prog n_stylusref35_Lines [(.isl 1 (a0_.map AM.encStr)), (.isl 1 (a1_.map AM.encStr))] h0 (Back h0 (fun r => (abool r)) Q) := by
  refine enter_stylusref35_Lines ?_
  unfold stylusref35_Lines.w at hm
  have H := AM.Own.nil h0
  simp (maxSteps := 4000000) -implicitDefEqProofs (disch := omega) only [push_cast, Nat.reduceAdd, Nat.reduceLeDiff, Nat.reduceMul, Nat.reduceSub, Nat.reduceLT, Nat.reduceEqDiff, Int.reduceAdd, Int.reduceSub, Int.reduceLE, Int.reduceLT, Int.reduceEq, Int.reduceNe, Int.reduceToNat, Int.reduceNeg, reduceIte, reduceCtorEq, ac_stylusref35_Lines]
  rw [fork_cond]
  refine ⟨fun c1 => ?_, fun c1 => ?_⟩
  · replace hm := ifn hm c1
    simp (maxSteps := 4000000) -implicitDefEqProofs (disch := omega) only [push_cast, Nat.reduceAdd, Nat.reduceLeDiff, Nat.reduceMul, Nat.reduceSub, Nat.reduceLT, Nat.reduceEqDiff, Int.reduceAdd, Int.reduceSub, Int.reduceLE, Int.reduceLT, Int.reduceEq, Int.reduceNe, Int.reduceToNat, Int.reduceNeg, reduceIte, reduceCtorEq, eq_false c1]
    exact retQ_back (.inl rfl) false _ rfl (Shift.refl _ _) H.sub hm
  · replace c1 := Decidable.not_not.1 c1
    replace hm := ifp hm c1
    simp (maxSteps := 4000000) -implicitDefEqProofs (disch := omega) only [push_cast, Nat.reduceAdd, Nat.reduceLeDiff, Nat.reduceMul, Nat.reduceSub, Nat.reduceLT, Nat.reduceEqDiff, Int.reduceAdd, Int.reduceSub, Int.reduceLE, Int.reduceLT, Int.reduceEq, Int.reduceNe, Int.reduceToNat, Int.reduceNeg, reduceIte, reduceCtorEq, eq_true c1]
    obtain ⟨inv1, mu1, hi1, hs1⟩ := hm
    replace H := H.perm [] (by decide)
    refine awp_loop (σ := Int × Hp) (fun ⟨a1, h1⟩ => ⟨(((List.replicate 26 AV.any).set 0 (.isl 1 (a0_.map AM.encStr))).set 1 (.isl 1 (a1_.map AM.encStr))).set 5 (aint a1), h1⟩) (fun ⟨a1, h1⟩ => inv1 a1 ∧ AM.Own h0 h1 []) (fun ⟨a1, h1⟩ => mu1 a1) ⟨0, h0⟩ (Retell.weak (by simp [Weak, push_cast]) (Hp.sub.refl _)) ⟨hi1, H⟩ ?_
    rintro ⟨a1, h1⟩ ⟨hi1, H⟩
    have hm := hs1 _ hi1
    dsimp only at hm H ⊢
    simp (maxSteps := 4000000) -implicitDefEqProofs (disch := omega) only [push_cast, Nat.reduceAdd, Nat.reduceLeDiff, Nat.reduceMul, Nat.reduceSub, Nat.reduceLT, Nat.reduceEqDiff, Int.reduceAdd, Int.reduceSub, Int.reduceLE, Int.reduceLT, Int.reduceEq, Int.reduceNe, Int.reduceToNat, Int.reduceNeg, reduceIte, reduceCtorEq, eq_true c1]
    rw [fork_cond]
    refine ⟨fun c2 => ?_, fun c2 => ?_⟩
    · replace hm := ifp hm c2
      obtain ⟨z1, hm⟩ := hm
      obtain ⟨v1, i1, hm⟩ := hm
      obtain ⟨v2, i2, hm⟩ := hm
      simp (maxSteps := 4000000) -implicitDefEqProofs (disch := omega) only [push_cast, Nat.reduceAdd, Nat.reduceLeDiff, Nat.reduceMul, Nat.reduceSub, Nat.reduceLT, Nat.reduceEqDiff, Int.reduceAdd, Int.reduceSub, Int.reduceLE, Int.reduceLT, Int.reduceEq, Int.reduceNe, Int.reduceToNat, Int.reduceNeg, reduceIte, reduceCtorEq, eq_true c1, eq_true c2, eq_true z1, i1, i2]
      rw [fork_cond]
      refine ⟨fun c3 => ?_, fun c3 => ?_⟩
      · replace hm := ifn hm c3
        simp (maxSteps := 4000000) -implicitDefEqProofs (disch := omega) only [push_cast, Nat.reduceAdd, Nat.reduceLeDiff, Nat.reduceMul, Nat.reduceSub, Nat.reduceLT, Nat.reduceEqDiff, Int.reduceAdd, Int.reduceSub, Int.reduceLE, Int.reduceLT, Int.reduceEq, Int.reduceNe, Int.reduceToNat, Int.reduceNeg, reduceIte, reduceCtorEq, eq_true c1, eq_true c2, eq_true z1, i1, i2, eq_false c3]
        exact retQ_back (.inl rfl) false _ rfl (Shift.refl _ _) H.sub hm
      · replace c3 := Decidable.not_not.1 c3
        replace hm := ifp hm c3
        obtain ⟨w1, hm⟩ := hm
        simp (maxSteps := 4000000) -implicitDefEqProofs (disch := omega) only [push_cast, Nat.reduceAdd, Nat.reduceLeDiff, Nat.reduceMul, Nat.reduceSub, Nat.reduceLT, Nat.reduceEqDiff, Int.reduceAdd, Int.reduceSub, Int.reduceLE, Int.reduceLT, Int.reduceEq, Int.reduceNe, Int.reduceToNat, Int.reduceNeg, reduceIte, reduceCtorEq, eq_true c1, eq_true c2, eq_true z1, i1, i2, eq_true c3, wrap_i64 _ w1]
        replace H := H.perm [] (by decide)
        exact ⟨⟨a1 + 1, h1⟩, hm.2, ⟨hm.1, H⟩, Retell.weak (by simp [Weak, push_cast]) (Hp.sub.refl _)⟩
    · replace hm := ifn hm c2
      simp (maxSteps := 4000000) -implicitDefEqProofs (disch := omega) only [push_cast, Nat.reduceAdd, Nat.reduceLeDiff, Nat.reduceMul, Nat.reduceSub, Nat.reduceLT, Nat.reduceEqDiff, Int.reduceAdd, Int.reduceSub, Int.reduceLE, Int.reduceLT, Int.reduceEq, Int.reduceNe, Int.reduceToNat, Int.reduceNeg, reduceIte, reduceCtorEq, eq_true c1, eq_false c2]
      exact retQ_back (.inl rfl) true _ rfl (Shift.refl _ _) H.sub hm
/-! stylus/stylusref35.Pages -/
abbrev n_stylusref35_Pages : Nat := 16
noncomputable def code_stylusref35_Pages : Code := match Tryd.f16.body with | some c => c | none => .skip
def ann_stylusref35_Pages : Nat → Ann
  | 6 => { pure := [8], plan := (.op 0 (.op 1 (.op 2 (.op 3 (.op 4 (.op 5 (.op 6 (.op 7 (.op 8 (.op 9 .done)))))))))), ghost := false, post := false }
  | _ => {}
noncomputable def ac_stylusref35_Pages : AC :=
  (.seq (.reg [⟨some 4, (Op.assign (Operand.const (Value.bool false))), none, false⟩]) (.seq (.seq (.reg [⟨some 6, (Op.move (Operand.tmp 0)), none, false⟩, ⟨some 7, (Op.call (Call.mk (Callee.builtin Builtin.len) #[(Operand.tmp 6)] #[22])), none, false⟩, ⟨some 8, (Op.move (Operand.tmp 1)), none, false⟩, ⟨some 9, (Op.call (Call.mk (Callee.builtin Builtin.len) #[(Operand.tmp 8)] #[22])), none, false⟩, ⟨some 10, (Op.binOp BinOp.neq 3 (Operand.tmp 7) (Operand.tmp 9) 3), none, false⟩]) (.cond (Operand.tmp 10) (.seq (.reg [⟨some 4, (Op.assign (Operand.const (Value.bool false))), none, false⟩]) .ret) .skip)) (.seq (.seq (.reg [⟨some 5, (Op.assign (Operand.const (Value.int IntKind.i64 0))), none, false⟩]) (.block 0 (.loop (.seq (.seq (.reg [⟨some 11, (Op.move (Operand.tmp 5)), none, false⟩, ⟨some 12, (Op.move (Operand.tmp 0)), none, false⟩, ⟨some 13, (Op.call (Call.mk (Callee.builtin Builtin.len) #[(Operand.tmp 12)] #[22])), none, false⟩, ⟨some 14, (Op.binOp BinOp.lss 3 (Operand.tmp 11) (Operand.tmp 13) 3), none, false⟩]) (.cond (Operand.tmp 14) .skip (.exit 0))) (.seq (.block 1 (.seq (.draw [⟨some 17, (Op.move (Operand.tmp 0)), none, false⟩, ⟨some 18, (Op.move (Operand.tmp 5)), none, false⟩, ⟨some 19, (Op.indexAddr 22 (Operand.tmp 17) (Operand.tmp 18)), none, false⟩, ⟨some 20, (Op.load 38 (Operand.tmp 19)), none, false⟩, ⟨some 21, (Op.move (Operand.tmp 1)), none, false⟩, ⟨some 22, (Op.move (Operand.tmp 5)), none, false⟩, ⟨some 23, (Op.indexAddr 22 (Operand.tmp 21) (Operand.tmp 22)), none, false⟩, ⟨some 24, (Op.load 38 (Operand.tmp 23)), none, false⟩, ⟨some 25, (Op.call (Call.mk (Callee.value (Operand.func 17)) #[(Operand.tmp 20), (Operand.tmp 24)] #[38, 38])), none, true⟩, ⟨some 26, (Op.unOp UnOp.not 4 (Operand.tmp 25)), none, false⟩] (.op 0 (.op 1 (.op 2 (.op 3 (.op 4 (.op 5 (.op 6 (.op 7 (.op 8 (.op 9 .done))))))))))) (.cond (Operand.tmp 26) (.seq (.reg [⟨some 4, (Op.assign (Operand.const (Value.bool false))), none, false⟩]) .ret) .skip))) (.reg [⟨some 15, (Op.move (Operand.tmp 5)), none, false⟩, ⟨some 16, (Op.binOp BinOp.add 3 (Operand.tmp 15) (Operand.const (Value.int IntKind.i64 1)) 3), none, false⟩, ⟨some 5, (Op.assign (Operand.tmp 16)), none, false⟩])))))) (.seq (.reg [⟨some 4, (Op.assign (Operand.const (Value.bool true))), none, false⟩]) .ret))))
theorem body_stylusref35_Pages : Tryd.f16.body = some code_stylusref35_Pages := by kernel_rfl
theorem slim_stylusref35_Pages : slim ann_stylusref35_Pages code_stylusref35_Pages = some ac_stylusref35_Pages := by kernel_rfl
theorem name_stylusref35_Pages : (Tryd.f16.name == "runtime.NumGoroutine") = false := by kernel_rfl
theorem enter_stylusref35_Pages {args : List AV} {h : Hp} {Q : AE → Hp → Prop} (H : awp Tryd.prog tab ac_stylusref35_Pages (retQ tab [(ResultVar.tmp 4)] Q) ⟨args ++ List.replicate (27 - args.length) .any, h⟩) : ACalls Tryd.prog 16 args h Q :=
  acalls_of tab_ok mixed Tryd.func16 body_stylusref35_Pages name_stylusref35_Pages slim_stylusref35_Pages rfl Tryd.ntmps16 H
/-- stylus/stylusref35.Pages -/
def stylusref35_Pages.w (a0_ : List (List ByteArray)) (a1_ : List (List ByteArray)) (Q : Bool → Prop) : Prop :=
  if (a0_.length : Int) = (a1_.length : Int) then
    wloop (σ := Int) (fun a1 next1 =>
      if a1 < (a0_.length : Int) then
        (0 ≤ a1) ∧
        ∃ v1 : List ByteArray, a0_[a1.toNat]? = some v1 ∧
        ∃ v2 : List ByteArray, a1_[a1.toNat]? = some v2 ∧
        ∃ r1 : Bool, stylusref35_Lines.w v1 v2 (fun r' => r' = r1) ∧
        if (!r1) = true then
          Q false
        else
          (I64 (a1 + 1)) ∧
          next1 (a1 + 1)
      else
        Q true) 0
  else
    Q false
theorem stylusref35_Pages.ok {a0_ : List (List ByteArray)} {a1_ : List (List ByteArray)} {Q : Bool → Prop} (hm : stylusref35_Pages.w a0_ a1_ Q) (h0 : Hp) : ACalls Tryd.prog n_stylusref35_Pages [(.isl 1 (a0_.map (encSl 1 AM.encStr))), (.isl 1 (a1_.map (encSl 1 AM.encStr)))] h0 (Back h0 (fun r => (abool r)) Q) := by
  refine enter_stylusref35_Pages ?_
  unfold stylusref35_Pages.w at hm
  have H := AM.Own.nil h0
  simp (maxSteps := 4000000) -implicitDefEqProofs (disch := omega) only [push_cast, Nat.reduceAdd, Nat.reduceLeDiff, Nat.reduceMul, Nat.reduceSub, Nat.reduceLT, Nat.reduceEqDiff, Int.reduceAdd, Int.reduceSub, Int.reduceLE, Int.reduceLT, Int.reduceEq, Int.reduceNe, Int.reduceToNat, Int.reduceNeg, reduceIte, reduceCtorEq, ac_stylusref35_Pages]
  rw [fork_cond]
  refine ⟨fun c1 => ?_, fun c1 => ?_⟩
  · replace hm := ifn hm c1
    simp (maxSteps := 4000000) -implicitDefEqProofs (disch := omega) only [push_cast, Nat.reduceAdd, Nat.reduceLeDiff, Nat.reduceMul, Nat.reduceSub, Nat.reduceLT, Nat.reduceEqDiff, Int.reduceAdd, Int.reduceSub, Int.reduceLE, Int.reduceLT, Int.reduceEq, Int.reduceNe, Int.reduceToNat, Int.reduceNeg, reduceIte, reduceCtorEq, eq_false c1]
    exact retQ_back (.inl rfl) false _ rfl (Shift.refl _ _) H.sub hm
  · replace c1 := Decidable.not_not.1 c1
    replace hm := ifp hm c1
    simp (maxSteps := 4000000) -implicitDefEqProofs (disch := omega) only [push_cast, Nat.reduceAdd, Nat.reduceLeDiff, Nat.reduceMul, Nat.reduceSub, Nat.reduceLT, Nat.reduceEqDiff, Int.reduceAdd, Int.reduceSub, Int.reduceLE, Int.reduceLT, Int.reduceEq, Int.reduceNe, Int.reduceToNat, Int.reduceNeg, reduceIte, reduceCtorEq, eq_true c1]
    obtain ⟨inv1, mu1, hi1, hs1⟩ := hm
    replace H := H.perm [] (by decide)
    refine awp_loop (σ := Int × Hp) (fun ⟨a1, h1⟩ => ⟨(((List.replicate 27 AV.any).set 0 (.isl 1 (a0_.map (encSl 1 AM.encStr)))).set 1 (.isl 1 (a1_.map (encSl 1 AM.encStr)))).set 5 (aint a1), h1⟩) (fun ⟨a1, h1⟩ => inv1 a1 ∧ AM.Own h0 h1 []) (fun ⟨a1, h1⟩ => mu1 a1) ⟨0, h0⟩ (Retell.weak (by simp [Weak, push_cast]) (Hp.sub.refl _)) ⟨hi1, H⟩ ?_
    rintro ⟨a1, h1⟩ ⟨hi1, H⟩
    have hm := hs1 _ hi1
    dsimp only at hm H ⊢
    simp (maxSteps := 4000000) -implicitDefEqProofs (disch := omega) only [push_cast, Nat.reduceAdd, Nat.reduceLeDiff, Nat.reduceMul, Nat.reduceSub, Nat.reduceLT, Nat.reduceEqDiff, Int.reduceAdd, Int.reduceSub, Int.reduceLE, Int.reduceLT, Int.reduceEq, Int.reduceNe, Int.reduceToNat, Int.reduceNeg, reduceIte, reduceCtorEq, eq_true c1]
    rw [fork_cond]
    refine ⟨fun c2 => ?_, fun c2 => ?_⟩
    · replace hm := ifp hm c2
      obtain ⟨z1, hm⟩ := hm
      obtain ⟨v1, i1, hm⟩ := hm
      obtain ⟨v2, i2, hm⟩ := hm
      simp (maxSteps := 4000000) -implicitDefEqProofs (disch := omega) only [push_cast, Nat.reduceAdd, Nat.reduceLeDiff, Nat.reduceMul, Nat.reduceSub, Nat.reduceLT, Nat.reduceEqDiff, Int.reduceAdd, Int.reduceSub, Int.reduceLE, Int.reduceLT, Int.reduceEq, Int.reduceNe, Int.reduceToNat, Int.reduceNeg, reduceIte, reduceCtorEq, eq_true c1, eq_true c2, eq_true z1, i1, i2]
      obtain ⟨r1, g1, hm⟩ := hm
      refine pures_of _ (pure_of_back (fun h => stylusref35_Lines.ok g1 h)) ?_
      simp (maxSteps := 4000000) -implicitDefEqProofs (disch := omega) only [push_cast, Nat.reduceAdd, Nat.reduceLeDiff, Nat.reduceMul, Nat.reduceSub, Nat.reduceLT, Nat.reduceEqDiff, Int.reduceAdd, Int.reduceSub, Int.reduceLE, Int.reduceLT, Int.reduceEq, Int.reduceNe, Int.reduceToNat, Int.reduceNeg, reduceIte, reduceCtorEq, eq_true c1, eq_true c2, eq_true z1, i1, i2]
      rw [fork_bool]
      refine ⟨fun c3 => ?_, fun c3 => ?_⟩
      · replace hm := ifp hm c3
        simp (maxSteps := 4000000) -implicitDefEqProofs (disch := omega) only [push_cast, Nat.reduceAdd, Nat.reduceLeDiff, Nat.reduceMul, Nat.reduceSub, Nat.reduceLT, Nat.reduceEqDiff, Int.reduceAdd, Int.reduceSub, Int.reduceLE, Int.reduceLT, Int.reduceEq, Int.reduceNe, Int.reduceToNat, Int.reduceNeg, reduceIte, reduceCtorEq, eq_true c1, eq_true c2, eq_true z1, i1, i2, c3]
        exact retQ_back (.inl rfl) false _ rfl (Shift.refl _ _) H.sub hm
      · replace hm := ifn hm (by rw [c3]; exact Bool.false_ne_true)
        obtain ⟨w1, hm⟩ := hm
        simp (maxSteps := 4000000) -implicitDefEqProofs (disch := omega) only [push_cast, Nat.reduceAdd, Nat.reduceLeDiff, Nat.reduceMul, Nat.reduceSub, Nat.reduceLT, Nat.reduceEqDiff, Int.reduceAdd, Int.reduceSub, Int.reduceLE, Int.reduceLT, Int.reduceEq, Int.reduceNe, Int.reduceToNat, Int.reduceNeg, reduceIte, reduceCtorEq, eq_true c1, eq_true c2, eq_true z1, i1, i2, c3, wrap_i64 _ w1]
        replace H := H.perm [] (by decide)
        exact ⟨⟨a1 + 1, h1⟩, hm.2, ⟨hm.1, H⟩, Retell.weak (by simp [Weak, push_cast]) (Hp.sub.refl _)⟩
    · replace hm := ifn hm c2
      simp (maxSteps := 4000000) -implicitDefEqProofs (disch := omega) only [push_cast, Nat.reduceAdd, Nat.reduceLeDiff, Nat.reduceMul, Nat.reduceSub, Nat.reduceLT, Nat.reduceEqDiff, Int.reduceAdd, Int.reduceSub, Int.reduceLE, Int.reduceLT, Int.reduceEq, Int.reduceNe, Int.reduceToNat, Int.reduceNeg, reduceIte, reduceCtorEq, eq_true c1, eq_false c2]
      exact retQ_back (.inl rfl) true _ rfl (Shift.refl _ _) H.sub hm
/-! stylus/stylusref35.Same -/
abbrev n_stylusref35_Same : Nat := 14
noncomputable def code_stylusref35_Same : Code := match Tryd.f14.body with | some c => c | none => .skip
def ann_stylusref35_Same : Nat → Ann
  | 6 => { pure := [26], plan := (.op 0 (.op 1 (.op 2 (.op 3 (.op 4 (.op 5 (.op 6 (.op 7 (.op 8 (.op 9 (.op 10 (.op 11 (.op 12 (.op 13 (.op 14 (.op 15 (.op 16 (.op 17 (.op 18 (.op 19 (.op 20 (.op 21 (.op 22 (.op 23 (.op 24 (.op 25 (.op 26 (.op 27 (.op 28 .done))))))))))))))))))))))))))))), ghost := false, post := false }
  | _ => {}
noncomputable def ac_stylusref35_Same : AC :=
  (.seq (.reg [⟨some 2, (Op.box 25 (Operand.tmp 0)), none, false⟩, ⟨some 3, (Op.box 25 (Operand.tmp 1)), none, false⟩, ⟨some 4, (Op.assign (Operand.const (Value.bool false))), none, false⟩]) (.seq (.seq (.reg [⟨some 6, (Op.fieldAddr 25 (Operand.tmp 2) 0), none, false⟩, ⟨some 7, (Op.load 3 (Operand.tmp 6)), none, false⟩, ⟨some 8, (Op.fieldAddr 25 (Operand.tmp 3) 0), none, false⟩, ⟨some 9, (Op.load 3 (Operand.tmp 8)), none, false⟩, ⟨some 10, (Op.binOp BinOp.neq 3 (Operand.tmp 7) (Operand.tmp 9) 3), none, false⟩, ⟨some 11, (Op.move (Operand.tmp 10)), none, false⟩, ⟨some 12, (Op.fieldAddr 25 (Operand.tmp 2) 1), (some (some 11, false)), false⟩, ⟨some 13, (Op.load 23 (Operand.tmp 12)), (some (some 11, false)), false⟩, ⟨some 14, (Op.call (Call.mk (Callee.builtin Builtin.len) #[(Operand.tmp 13)] #[23])), (some (some 11, false)), false⟩, ⟨some 15, (Op.fieldAddr 25 (Operand.tmp 3) 1), (some (some 11, false)), false⟩, ⟨some 16, (Op.load 23 (Operand.tmp 15)), (some (some 11, false)), false⟩, ⟨some 17, (Op.call (Call.mk (Callee.builtin Builtin.len) #[(Operand.tmp 16)] #[23])), (some (some 11, false)), false⟩, ⟨some 18, (Op.binOp BinOp.neq 3 (Operand.tmp 14) (Operand.tmp 17) 3), (some (some 11, false)), false⟩, ⟨some 19, (Op.pick (Operand.tmp 11) (Operand.const (Value.bool true)) (Operand.tmp 18)), none, false⟩]) (.cond (Operand.tmp 19) (.seq (.reg [⟨some 4, (Op.assign (Operand.const (Value.bool false))), none, false⟩]) .ret) .skip)) (.seq (.seq (.reg [⟨some 5, (Op.assign (Operand.const (Value.int IntKind.i64 0))), none, false⟩]) (.block 0 (.loop (.seq (.seq (.reg [⟨some 20, (Op.move (Operand.tmp 5)), none, false⟩, ⟨some 21, (Op.fieldAddr 25 (Operand.tmp 2) 1), none, false⟩, ⟨some 22, (Op.load 23 (Operand.tmp 21)), none, false⟩, ⟨some 23, (Op.call (Call.mk (Callee.builtin Builtin.len) #[(Operand.tmp 22)] #[23])), none, false⟩, ⟨some 24, (Op.binOp BinOp.lss 3 (Operand.tmp 20) (Operand.tmp 23) 3), none, false⟩]) (.cond (Operand.tmp 24) .skip (.exit 0))) (.seq (.block 1 (.seq (.draw [⟨some 27, (Op.fieldAddr 25 (Operand.tmp 2) 1), none, false⟩, ⟨some 28, (Op.load 23 (Operand.tmp 27)), none, false⟩, ⟨some 29, (Op.move (Operand.tmp 5)), none, false⟩, ⟨some 30, (Op.indexAddr 23 (Operand.tmp 28) (Operand.tmp 29)), none, false⟩, ⟨some 31, (Op.fieldAddr 40 (Operand.tmp 30) 0), none, false⟩, ⟨some 32, (Op.load 3 (Operand.tmp 31)), none, false⟩, ⟨some 33, (Op.fieldAddr 25 (Operand.tmp 3) 1), none, false⟩, ⟨some 34, (Op.load 23 (Operand.tmp 33)), none, false⟩, ⟨some 35, (Op.move (Operand.tmp 5)), none, false⟩, ⟨some 36, (Op.indexAddr 23 (Operand.tmp 34) (Operand.tmp 35)), none, false⟩, ⟨some 37, (Op.fieldAddr 40 (Operand.tmp 36) 0), none, false⟩, ⟨some 38, (Op.load 3 (Operand.tmp 37)), none, false⟩, ⟨some 39, (Op.binOp BinOp.neq 3 (Operand.tmp 32) (Operand.tmp 38) 3), none, false⟩, ⟨some 40, (Op.move (Operand.tmp 39)), none, false⟩, ⟨some 41, (Op.fieldAddr 25 (Operand.tmp 2) 1), (some (some 40, false)), false⟩, ⟨some 42, (Op.load 23 (Operand.tmp 41)), (some (some 40, false)), false⟩, ⟨some 43, (Op.move (Operand.tmp 5)), (some (some 40, false)), false⟩, ⟨some 44, (Op.indexAddr 23 (Operand.tmp 42) (Operand.tmp 43)), (some (some 40, false)), false⟩, ⟨some 45, (Op.fieldAddr 40 (Operand.tmp 44) 1), (some (some 40, false)), false⟩, ⟨some 46, (Op.load 38 (Operand.tmp 45)), (some (some 40, false)), false⟩, ⟨some 47, (Op.fieldAddr 25 (Operand.tmp 3) 1), (some (some 40, false)), false⟩, ⟨some 48, (Op.load 23 (Operand.tmp 47)), (some (some 40, false)), false⟩, ⟨some 49, (Op.move (Operand.tmp 5)), (some (some 40, false)), false⟩, ⟨some 50, (Op.indexAddr 23 (Operand.tmp 48) (Operand.tmp 49)), (some (some 40, false)), false⟩, ⟨some 51, (Op.fieldAddr 40 (Operand.tmp 50) 1), (some (some 40, false)), false⟩, ⟨some 52, (Op.load 38 (Operand.tmp 51)), (some (some 40, false)), false⟩, ⟨some 53, (Op.call (Call.mk (Callee.value (Operand.func 17)) #[(Operand.tmp 46), (Operand.tmp 52)] #[38, 38])), (some (some 40, false)), true⟩, ⟨some 54, (Op.unOp UnOp.not 4 (Operand.tmp 53)), (some (some 40, false)), false⟩, ⟨some 55, (Op.pick (Operand.tmp 40) (Operand.const (Value.bool true)) (Operand.tmp 54)), none, false⟩] (.op 0 (.op 1 (.op 2 (.op 3 (.op 4 (.op 5 (.op 6 (.op 7 (.op 8 (.op 9 (.op 10 (.op 11 (.op 12 (.op 13 (.op 14 (.op 15 (.op 16 (.op 17 (.op 18 (.op 19 (.op 20 (.op 21 (.op 22 (.op 23 (.op 24 (.op 25 (.op 26 (.op 27 (.op 28 .done)))))))))))))))))))))))))))))) (.cond (Operand.tmp 55) (.seq (.reg [⟨some 4, (Op.assign (Operand.const (Value.bool false))), none, false⟩]) .ret) .skip))) (.reg [⟨some 25, (Op.move (Operand.tmp 5)), none, false⟩, ⟨some 26, (Op.binOp BinOp.add 3 (Operand.tmp 25) (Operand.const (Value.int IntKind.i64 1)) 3), none, false⟩, ⟨some 5, (Op.assign (Operand.tmp 26)), none, false⟩])))))) (.seq (.reg [⟨some 4, (Op.assign (Operand.const (Value.bool true))), none, false⟩]) .ret))))
theorem body_stylusref35_Same : Tryd.f14.body = some code_stylusref35_Same := by kernel_rfl
theorem slim_stylusref35_Same : slim ann_stylusref35_Same code_stylusref35_Same = some ac_stylusref35_Same := by kernel_rfl
theorem name_stylusref35_Same : (Tryd.f14.name == "runtime.NumGoroutine") = false := by kernel_rfl
theorem enter_stylusref35_Same {args : List AV} {h : Hp} {Q : AE → Hp → Prop} (H : awp Tryd.prog tab ac_stylusref35_Same (retQ tab [(ResultVar.tmp 4)] Q) ⟨args ++ List.replicate (56 - args.length) .any, h⟩) : ACalls Tryd.prog 14 args h Q :=
  acalls_of tab_ok mixed Tryd.func14 body_stylusref35_Same name_stylusref35_Same slim_stylusref35_Same rfl Tryd.ntmps14 H
/-- stylus/stylusref35.Same -/
def stylusref35_Same.w (a0_ : ApiPatch) (a1_ : ApiPatch) (Q : Bool → Prop) : Prop :=
  if a0_.Pages = a1_.Pages then
    if (a0_.Changes.length : Int) = (a1_.Changes.length : Int) then
      wloop (σ := Int) (fun a1 next1 =>
        if a1 < (a0_.Changes.length : Int) then
          (0 ≤ a1) ∧
          ∃ v1 : ApiChange, a0_.Changes[a1.toNat]? = some v1 ∧
          ∃ v2 : ApiChange, a1_.Changes[a1.toNat]? = some v2 ∧
          if v1.Page = v2.Page then
            ∃ r1 : Bool, stylusref35_Lines.w v1.Lines v2.Lines (fun r' => r' = r1) ∧
            if (!r1) = true then
              Q false
            else
              (I64 (a1 + 1)) ∧
              next1 (a1 + 1)
          else
            Q false
        else
          Q true) 0
    else
      Q false
  else
    Q false
theorem stylusref35_Same.ok {a0_ : ApiPatch} {a1_ : ApiPatch} {Q : Bool → Prop} (hm : stylusref35_Same.w a0_ a1_ Q) (h0 : Hp) : ACalls Tryd.prog n_stylusref35_Same [(.agg (ApiPatch.enc a0_)), (.agg (ApiPatch.enc a1_))] h0 (Back h0 (fun r => (abool r)) Q) := by
  refine enter_stylusref35_Same ?_
  unfold stylusref35_Same.w at hm
  have H := AM.Own.nil h0
  simp (maxSteps := 4000000) -implicitDefEqProofs (disch := omega) only [push_cast, Nat.reduceAdd, Nat.reduceLeDiff, Nat.reduceMul, Nat.reduceSub, Nat.reduceLT, Nat.reduceEqDiff, Int.reduceAdd, Int.reduceSub, Int.reduceLE, Int.reduceLT, Int.reduceEq, Int.reduceNe, Int.reduceToNat, Int.reduceNeg, reduceIte, reduceCtorEq, ac_stylusref35_Same]
  refine H.newR (ApiPatch.enc a0_) rfl (fun b1 h1 H => ?_)
  have e0 := H.getP 0 rfl
  simp (maxSteps := 4000000) -implicitDefEqProofs (disch := omega) only [push_cast, Nat.reduceAdd, Nat.reduceLeDiff, Nat.reduceMul, Nat.reduceSub, Nat.reduceLT, Nat.reduceEqDiff, Int.reduceAdd, Int.reduceSub, Int.reduceLE, Int.reduceLT, Int.reduceEq, Int.reduceNe, Int.reduceToNat, Int.reduceNeg, reduceIte, reduceCtorEq, e0]
  refine H.newR (ApiPatch.enc a1_) rfl (fun b2 h2 H => ?_)
  have e0 := H.getP 0 rfl
  have e1 := H.getP 1 rfl
  simp (maxSteps := 4000000) -implicitDefEqProofs (disch := omega) only [push_cast, Nat.reduceAdd, Nat.reduceLeDiff, Nat.reduceMul, Nat.reduceSub, Nat.reduceLT, Nat.reduceEqDiff, Int.reduceAdd, Int.reduceSub, Int.reduceLE, Int.reduceLT, Int.reduceEq, Int.reduceNe, Int.reduceToNat, Int.reduceNeg, reduceIte, reduceCtorEq, e0, e1]
  rw [gfork_cond']
  refine ⟨fun c1 => ?_, fun c1 => ?_⟩
  · replace hm := ifn hm c1
    have e0 := H.getP 0 rfl
    have e1 := H.getP 1 rfl
    simp (maxSteps := 4000000) -implicitDefEqProofs (disch := omega) only [push_cast, Nat.reduceAdd, Nat.reduceLeDiff, Nat.reduceMul, Nat.reduceSub, Nat.reduceLT, Nat.reduceEqDiff, Int.reduceAdd, Int.reduceSub, Int.reduceLE, Int.reduceLT, Int.reduceEq, Int.reduceNe, Int.reduceToNat, Int.reduceNeg, reduceIte, reduceCtorEq, eq_false c1, e0, e1]
    exact retQ_back (.inl rfl) false _ rfl (Shift.refl _ _) H.sub hm
  · replace c1 := Decidable.not_not.1 c1
    replace hm := ifp hm c1
    have e0 := H.getP 0 rfl
    have e1 := H.getP 1 rfl
    simp (maxSteps := 4000000) -implicitDefEqProofs (disch := omega) only [push_cast, Nat.reduceAdd, Nat.reduceLeDiff, Nat.reduceMul, Nat.reduceSub, Nat.reduceLT, Nat.reduceEqDiff, Int.reduceAdd, Int.reduceSub, Int.reduceLE, Int.reduceLT, Int.reduceEq, Int.reduceNe, Int.reduceToNat, Int.reduceNeg, reduceIte, reduceCtorEq, eq_true c1, e0, e1]
    rw [fork_cond]
    refine ⟨fun c2 => ?_, fun c2 => ?_⟩
    · replace hm := ifn hm c2
      have e0 := H.getP 0 rfl
      have e1 := H.getP 1 rfl
      simp (maxSteps := 4000000) -implicitDefEqProofs (disch := omega) only [push_cast, Nat.reduceAdd, Nat.reduceLeDiff, Nat.reduceMul, Nat.reduceSub, Nat.reduceLT, Nat.reduceEqDiff, Int.reduceAdd, Int.reduceSub, Int.reduceLE, Int.reduceLT, Int.reduceEq, Int.reduceNe, Int.reduceToNat, Int.reduceNeg, reduceIte, reduceCtorEq, eq_true c1, eq_false c2, e0, e1]
      exact retQ_back (.inl rfl) false _ rfl (Shift.refl _ _) H.sub hm
    · replace c2 := Decidable.not_not.1 c2
      replace hm := ifp hm c2
      have e0 := H.getP 0 rfl
      have e1 := H.getP 1 rfl
      simp (maxSteps := 4000000) -implicitDefEqProofs (disch := omega) only [push_cast, Nat.reduceAdd, Nat.reduceLeDiff, Nat.reduceMul, Nat.reduceSub, Nat.reduceLT, Nat.reduceEqDiff, Int.reduceAdd, Int.reduceSub, Int.reduceLE, Int.reduceLT, Int.reduceEq, Int.reduceNe, Int.reduceToNat, Int.reduceNeg, reduceIte, reduceCtorEq, eq_true c1, eq_true c2, e0, e1]
      obtain ⟨inv1, mu1, hi1, hs1⟩ := hm
      replace H := H.perm [0, 1] (by decide)
      refine awp_loop (σ := Int × Hp) (fun ⟨a1, h3⟩ => ⟨(((List.replicate 56 AV.any).set 2 (.optr b1 2 0 0)).set 3 (.optr b2 2 0 0)).set 5 (aint a1), h3⟩) (fun ⟨a1, h3⟩ => inv1 a1 ∧ AM.Own h0 h3 [⟨(.optr b1 2 0 0), true, 2, [(ApiPatch.enc a0_)], some (25, 2)⟩, ⟨(.optr b2 2 0 0), true, 2, [(ApiPatch.enc a1_)], some (25, 2)⟩]) (fun ⟨a1, h3⟩ => mu1 a1) ⟨0, h2⟩ (Retell.weak (by simp [Weak, push_cast]) (Hp.sub.refl _)) ⟨hi1, H⟩ ?_
      rintro ⟨a1, h3⟩ ⟨hi1, H⟩
      have hm := hs1 _ hi1
      dsimp only at hm H ⊢
      have e0 := H.getP 0 rfl
      have e1 := H.getP 1 rfl
      simp (maxSteps := 4000000) -implicitDefEqProofs (disch := omega) only [push_cast, Nat.reduceAdd, Nat.reduceLeDiff, Nat.reduceMul, Nat.reduceSub, Nat.reduceLT, Nat.reduceEqDiff, Int.reduceAdd, Int.reduceSub, Int.reduceLE, Int.reduceLT, Int.reduceEq, Int.reduceNe, Int.reduceToNat, Int.reduceNeg, reduceIte, reduceCtorEq, eq_true c1, eq_true c2, e0, e1]
      rw [fork_cond]
      refine ⟨fun c3 => ?_, fun c3 => ?_⟩
      · replace hm := ifp hm c3
        obtain ⟨z1, hm⟩ := hm
        obtain ⟨v1, i1, hm⟩ := hm
        obtain ⟨v2, i2, hm⟩ := hm
        have e0 := H.getP 0 rfl
        have e1 := H.getP 1 rfl
        simp (maxSteps := 4000000) -implicitDefEqProofs (disch := omega) only [push_cast, Nat.reduceAdd, Nat.reduceLeDiff, Nat.reduceMul, Nat.reduceSub, Nat.reduceLT, Nat.reduceEqDiff, Int.reduceAdd, Int.reduceSub, Int.reduceLE, Int.reduceLT, Int.reduceEq, Int.reduceNe, Int.reduceToNat, Int.reduceNeg, reduceIte, reduceCtorEq, eq_true c1, eq_true c2, eq_true c3, eq_true z1, i1, i2, e0, e1]
        rw [gfork_cond']
        refine ⟨fun c4 => ?_, fun c4 => ?_⟩
        · replace hm := ifn hm c4
          have e0 := H.getP 0 rfl
          have e1 := H.getP 1 rfl
          simp (maxSteps := 4000000) -implicitDefEqProofs (disch := omega) only [push_cast, Nat.reduceAdd, Nat.reduceLeDiff, Nat.reduceMul, Nat.reduceSub, Nat.reduceLT, Nat.reduceEqDiff, Int.reduceAdd, Int.reduceSub, Int.reduceLE, Int.reduceLT, Int.reduceEq, Int.reduceNe, Int.reduceToNat, Int.reduceNeg, reduceIte, reduceCtorEq, eq_true c1, eq_true c2, eq_true c3, eq_true z1, i1, i2, eq_false c4, e0, e1]
          exact retQ_back (.inl rfl) false _ rfl (Shift.refl _ _) H.sub hm
        · replace c4 := Decidable.not_not.1 c4
          replace hm := ifp hm c4
          have e0 := H.getP 0 rfl
          have e1 := H.getP 1 rfl
          simp (maxSteps := 4000000) -implicitDefEqProofs (disch := omega) only [push_cast, Nat.reduceAdd, Nat.reduceLeDiff, Nat.reduceMul, Nat.reduceSub, Nat.reduceLT, Nat.reduceEqDiff, Int.reduceAdd, Int.reduceSub, Int.reduceLE, Int.reduceLT, Int.reduceEq, Int.reduceNe, Int.reduceToNat, Int.reduceNeg, reduceIte, reduceCtorEq, eq_true c1, eq_true c2, eq_true c3, eq_true z1, i1, i2, eq_true c4, e0, e1]
          obtain ⟨r1, g1, hm⟩ := hm
          refine pures_of _ (pure_of_back (fun h => stylusref35_Lines.ok g1 h)) ?_
          have e0 := H.getP 0 rfl
          have e1 := H.getP 1 rfl
          simp (maxSteps := 4000000) -implicitDefEqProofs (disch := omega) only [push_cast, Nat.reduceAdd, Nat.reduceLeDiff, Nat.reduceMul, Nat.reduceSub, Nat.reduceLT, Nat.reduceEqDiff, Int.reduceAdd, Int.reduceSub, Int.reduceLE, Int.reduceLT, Int.reduceEq, Int.reduceNe, Int.reduceToNat, Int.reduceNeg, reduceIte, reduceCtorEq, eq_true c1, eq_true c2, eq_true c3, eq_true z1, i1, i2, eq_true c4, e0, e1]
          rw [fork_bool]
          refine ⟨fun c5 => ?_, fun c5 => ?_⟩
          · replace hm := ifp hm c5
            have e0 := H.getP 0 rfl
            have e1 := H.getP 1 rfl
            simp (maxSteps := 4000000) -implicitDefEqProofs (disch := omega) only [push_cast, Nat.reduceAdd, Nat.reduceLeDiff, Nat.reduceMul, Nat.reduceSub, Nat.reduceLT, Nat.reduceEqDiff, Int.reduceAdd, Int.reduceSub, Int.reduceLE, Int.reduceLT, Int.reduceEq, Int.reduceNe, Int.reduceToNat, Int.reduceNeg, reduceIte, reduceCtorEq, eq_true c1, eq_true c2, eq_true c3, eq_true z1, i1, i2, eq_true c4, c5, e0, e1]
            exact retQ_back (.inl rfl) false _ rfl (Shift.refl _ _) H.sub hm
          · replace hm := ifn hm (by rw [c5]; exact Bool.false_ne_true)
            obtain ⟨w1, hm⟩ := hm
            have e0 := H.getP 0 rfl
            have e1 := H.getP 1 rfl
            simp (maxSteps := 4000000) -implicitDefEqProofs (disch := omega) only [push_cast, Nat.reduceAdd, Nat.reduceLeDiff, Nat.reduceMul, Nat.reduceSub, Nat.reduceLT, Nat.reduceEqDiff, Int.reduceAdd, Int.reduceSub, Int.reduceLE, Int.reduceLT, Int.reduceEq, Int.reduceNe, Int.reduceToNat, Int.reduceNeg, reduceIte, reduceCtorEq, eq_true c1, eq_true c2, eq_true c3, eq_true z1, i1, i2, eq_true c4, c5, wrap_i64 _ w1, e0, e1]
            replace H := H.perm [0, 1] (by decide)
            exact ⟨⟨a1 + 1, h3⟩, hm.2, ⟨hm.1, H⟩, Retell.weak (by simp [Weak, push_cast]) (Hp.sub.refl _)⟩
      · replace hm := ifn hm c3
        have e0 := H.getP 0 rfl
        have e1 := H.getP 1 rfl
        simp (maxSteps := 4000000) -implicitDefEqProofs (disch := omega) only [push_cast, Nat.reduceAdd, Nat.reduceLeDiff, Nat.reduceMul, Nat.reduceSub, Nat.reduceLT, Nat.reduceEqDiff, Int.reduceAdd, Int.reduceSub, Int.reduceLE, Int.reduceLT, Int.reduceEq, Int.reduceNe, Int.reduceToNat, Int.reduceNeg, reduceIte, reduceCtorEq, eq_true c1, eq_true c2, eq_false c3, e0, e1]
        exact retQ_back (.inl rfl) true _ rfl (Shift.refl _ _) H.sub hm
/-! stylus/stylusref35.Rising -/
abbrev n_stylusref35_Rising : Nat := 22
noncomputable def code_stylusref35_Rising : Code := match Tryd.f22.body with | some c => c | none => .skip
def ann_stylusref35_Rising : Nat → Ann
  | _ => {}
noncomputable def ac_stylusref35_Rising_c1 : AC :=
  (.seq (.block 1 (.seq (.reg [⟨some 12, (Op.fieldAddr 25 (Operand.tmp 1) 1), none, false⟩, ⟨some 13, (Op.load 23 (Operand.tmp 12)), none, false⟩, ⟨some 14, (Op.move (Operand.tmp 3)), none, false⟩, ⟨some 15, (Op.indexAddr 23 (Operand.tmp 13) (Operand.tmp 14)), none, false⟩, ⟨some 16, (Op.fieldAddr 40 (Operand.tmp 15) 0), none, false⟩, ⟨some 17, (Op.load 3 (Operand.tmp 16)), none, false⟩, ⟨some 4, (Op.assign (Operand.tmp 17)), none, false⟩]) (.seq (.reg [⟨some 18, (Op.move (Operand.tmp 4)), none, false⟩, ⟨some 19, (Op.binOp BinOp.lss 3 (Operand.tmp 18) (Operand.const (Value.int IntKind.i64 1)) 3), none, false⟩, ⟨some 20, (Op.move (Operand.tmp 19)), none, false⟩, ⟨some 21, (Op.move (Operand.tmp 4)), (some (some 20, false)), false⟩, ⟨some 22, (Op.fieldAddr 25 (Operand.tmp 1) 0), (some (some 20, false)), false⟩, ⟨some 23, (Op.load 3 (Operand.tmp 22)), (some (some 20, false)), false⟩, ⟨some 24, (Op.binOp BinOp.gtr 3 (Operand.tmp 21) (Operand.tmp 23) 3), (some (some 20, false)), false⟩, ⟨some 25, (Op.pick (Operand.tmp 20) (Operand.const (Value.bool true)) (Operand.tmp 24)), none, false⟩, ⟨some 26, (Op.move (Operand.tmp 25)), none, false⟩, ⟨some 27, (Op.move (Operand.tmp 3)), (some (some 26, false)), false⟩, ⟨some 28, (Op.binOp BinOp.gtr 3 (Operand.tmp 27) (Operand.const (Value.int IntKind.i64 0)) 3), (some (some 26, false)), false⟩, ⟨some 29, (Op.move (Operand.tmp 28)), (some (some 26, false)), false⟩, ⟨some 30, (Op.move (Operand.tmp 4)), (some (some 29, true)), false⟩, ⟨some 31, (Op.fieldAddr 25 (Operand.tmp 1) 1), (some (some 29, true)), false⟩, ⟨some 32, (Op.load 23 (Operand.tmp 31)), (some (some 29, true)), false⟩, ⟨some 33, (Op.move (Operand.tmp 3)), (some (some 29, true)), false⟩, ⟨some 34, (Op.binOp BinOp.sub 3 (Operand.tmp 33) (Operand.const (Value.int IntKind.i64 1)) 3), (some (some 29, true)), false⟩, ⟨some 35, (Op.indexAddr 23 (Operand.tmp 32) (Operand.tmp 34)), (some (some 29, true)), false⟩, ⟨some 36, (Op.fieldAddr 40 (Operand.tmp 35) 0), (some (some 29, true)), false⟩, ⟨some 37, (Op.load 3 (Operand.tmp 36)), (some (some 29, true)), false⟩, ⟨some 38, (Op.binOp BinOp.leq 3 (Operand.tmp 30) (Operand.tmp 37) 3), (some (some 29, true)), false⟩, ⟨some 39, (Op.pick (Operand.tmp 29) (Operand.tmp 38) (Operand.const (Value.bool false))), (some (some 26, false)), false⟩, ⟨some 40, (Op.pick (Operand.tmp 26) (Operand.const (Value.bool true)) (Operand.tmp 39)), none, false⟩]) (.cond (Operand.tmp 40) (.seq (.reg [⟨some 2, (Op.assign (Operand.const (Value.bool false))), none, false⟩]) .ret) .skip)))) (.reg [⟨some 10, (Op.move (Operand.tmp 3)), none, false⟩, ⟨some 11, (Op.binOp BinOp.add 3 (Operand.tmp 10) (Operand.const (Value.int IntKind.i64 1)) 3), none, false⟩, ⟨some 3, (Op.assign (Operand.tmp 11)), none, false⟩]))
noncomputable def ac_stylusref35_Rising : AC :=
  (.seq (.reg [⟨some 1, (Op.box 25 (Operand.tmp 0)), none, false⟩, ⟨some 2, (Op.assign (Operand.const (Value.bool false))), none, false⟩]) (.seq (.seq (.reg [⟨some 3, (Op.assign (Operand.const (Value.int IntKind.i64 0))), none, false⟩]) (.block 0 (.loop (.seq (.seq (.reg [⟨some 5, (Op.move (Operand.tmp 3)), none, false⟩, ⟨some 6, (Op.fieldAddr 25 (Operand.tmp 1) 1), none, false⟩, ⟨some 7, (Op.load 23 (Operand.tmp 6)), none, false⟩, ⟨some 8, (Op.call (Call.mk (Callee.builtin Builtin.len) #[(Operand.tmp 7)] #[23])), none, false⟩, ⟨some 9, (Op.binOp BinOp.lss 3 (Operand.tmp 5) (Operand.tmp 8) 3), none, false⟩]) (.cond (Operand.tmp 9) .skip (.exit 0))) ac_stylusref35_Rising_c1)))) (.seq (.reg [⟨some 41, (Op.fieldAddr 25 (Operand.tmp 1) 0), none, false⟩, ⟨some 42, (Op.load 3 (Operand.tmp 41)), none, false⟩, ⟨some 43, (Op.binOp BinOp.geq 3 (Operand.tmp 42) (Operand.const (Value.int IntKind.i64 0)) 3), none, false⟩, ⟨some 2, (Op.assign (Operand.tmp 43)), none, false⟩]) .ret)))
theorem body_stylusref35_Rising : Tryd.f22.body = some code_stylusref35_Rising := by kernel_rfl
theorem slim_stylusref35_Rising : slim ann_stylusref35_Rising code_stylusref35_Rising = some ac_stylusref35_Rising := by kernel_rfl
theorem name_stylusref35_Rising : (Tryd.f22.name == "runtime.NumGoroutine") = false := by kernel_rfl
theorem enter_stylusref35_Rising {args : List AV} {h : Hp} {Q : AE → Hp → Prop} (H : awp Tryd.prog tab ac_stylusref35_Rising (retQ tab [(ResultVar.tmp 2)] Q) ⟨args ++ List.replicate (44 - args.length) .any, h⟩) : ACalls Tryd.prog 22 args h Q :=
  acalls_of tab_ok mixed Tryd.func22 body_stylusref35_Rising name_stylusref35_Rising slim_stylusref35_Rising rfl Tryd.ntmps22 H
/-- stylus/stylusref35.Rising -/
def stylusref35_Rising.w (a0_ : ApiPatch) (Q : Bool → Prop) : Prop :=
  wloop (σ := Int) (fun a1 next1 =>
    if a1 < (a0_.Changes.length : Int) then
      wcut (α := Unit) (fun k1 =>
        (0 ≤ a1) ∧
        ∃ v1 : ApiChange, a0_.Changes[a1.toNat]? = some v1 ∧
        if v1.Page < 1 then
          Q false
        else
          if a0_.Pages < v1.Page then
            Q false
          else
            if 0 < a1 then
              (I64 (a1 - 1)) ∧
              (0 ≤ a1 - 1) ∧
              ∃ v2 : ApiChange, a0_.Changes[(a1 - 1).toNat]? = some v2 ∧
              if v1.Page ≤ v2.Page then
                Q false
              else
                k1 ()
            else
              k1 ()) (fun _ =>
        (I64 (a1 + 1)) ∧
        next1 (a1 + 1))
    else
      Q (decide (0 ≤ a0_.Pages))) 0
theorem stylusref35_Rising.ok {a0_ : ApiPatch} {Q : Bool → Prop} (hm : stylusref35_Rising.w a0_ Q) (h0 : Hp) : ACalls Tryd.prog n_stylusref35_Rising [(.agg (ApiPatch.enc a0_))] h0 (Back h0 (fun r => (abool r)) Q) := by
  refine enter_stylusref35_Rising ?_
  unfold stylusref35_Rising.w at hm
  have H := AM.Own.nil h0
  simp (maxSteps := 4000000) -implicitDefEqProofs (disch := omega) only [push_cast, Nat.reduceAdd, Nat.reduceLeDiff, Nat.reduceMul, Nat.reduceSub, Nat.reduceLT, Nat.reduceEqDiff, Int.reduceAdd, Int.reduceSub, Int.reduceLE, Int.reduceLT, Int.reduceEq, Int.reduceNe, Int.reduceToNat, Int.reduceNeg, reduceIte, reduceCtorEq, ac_stylusref35_Rising]
  refine H.newR (ApiPatch.enc a0_) rfl (fun b1 h1 H => ?_)
  have e0 := H.getP 0 rfl
  simp (maxSteps := 4000000) -implicitDefEqProofs (disch := omega) only [push_cast, Nat.reduceAdd, Nat.reduceLeDiff, Nat.reduceMul, Nat.reduceSub, Nat.reduceLT, Nat.reduceEqDiff, Int.reduceAdd, Int.reduceSub, Int.reduceLE, Int.reduceLT, Int.reduceEq, Int.reduceNe, Int.reduceToNat, Int.reduceNeg, reduceIte, reduceCtorEq, e0]
  obtain ⟨inv1, mu1, hi1, hs1⟩ := hm
  replace H := H.perm [0] (by decide)
  refine awp_loop (σ := Int × Hp) (fun ⟨a1, h2⟩ => ⟨((List.replicate 44 AV.any).set 1 (.optr b1 2 0 0)).set 3 (aint a1), h2⟩) (fun ⟨a1, h2⟩ => inv1 a1 ∧ AM.Own h0 h2 [⟨(.optr b1 2 0 0), true, 2, [(ApiPatch.enc a0_)], some (25, 2)⟩]) (fun ⟨a1, h2⟩ => mu1 a1) ⟨0, h1⟩ (Retell.weak (by simp [Weak, push_cast]) (Hp.sub.refl _)) ⟨hi1, H⟩ ?_
  rintro ⟨a1, h2⟩ ⟨hi1, H⟩
  have hm := hs1 _ hi1
  dsimp only at hm H ⊢
  have e0 := H.getP 0 rfl
  simp (maxSteps := 4000000) -implicitDefEqProofs (disch := omega) only [push_cast, Nat.reduceAdd, Nat.reduceLeDiff, Nat.reduceMul, Nat.reduceSub, Nat.reduceLT, Nat.reduceEqDiff, Int.reduceAdd, Int.reduceSub, Int.reduceLE, Int.reduceLT, Int.reduceEq, Int.reduceNe, Int.reduceToNat, Int.reduceNeg, reduceIte, reduceCtorEq, e0]
  rw [fork_cond]
  refine ⟨fun c1 => ?_, fun c1 => ?_⟩
  · replace hm := ifp hm c1
    have e0 := H.getP 0 rfl
    simp (maxSteps := 4000000) -implicitDefEqProofs (disch := omega) only [push_cast, Nat.reduceAdd, Nat.reduceLeDiff, Nat.reduceMul, Nat.reduceSub, Nat.reduceLT, Nat.reduceEqDiff, Int.reduceAdd, Int.reduceSub, Int.reduceLE, Int.reduceLT, Int.reduceEq, Int.reduceNe, Int.reduceToNat, Int.reduceNeg, reduceIte, reduceCtorEq, eq_true c1, e0]
    obtain ⟨k1, hm, hk1⟩ := wcut_elim hm
    refine awp_cut (fun s' => ∃ (h3 : Hp), Like s'.tm (((List.replicate 44 none).set 1 (some (.optr b1 2 0 0))).set 3 (some (aint a1))) ∧ s'.h = h3 ∧ AM.Own h0 h3 [⟨(.optr b1 2 0 0), true, 2, [(ApiPatch.enc a0_)], some (25, 2)⟩] ∧ k1 ()) ?_ ?_
    · obtain ⟨z1, hm⟩ := hm
      obtain ⟨v1, i1, hm⟩ := hm
      have e0 := H.getP 0 rfl
      simp (maxSteps := 4000000) -implicitDefEqProofs (disch := omega) only [push_cast, Nat.reduceAdd, Nat.reduceLeDiff, Nat.reduceMul, Nat.reduceSub, Nat.reduceLT, Nat.reduceEqDiff, Int.reduceAdd, Int.reduceSub, Int.reduceLE, Int.reduceLT, Int.reduceEq, Int.reduceNe, Int.reduceToNat, Int.reduceNeg, reduceIte, reduceCtorEq, eq_true c1, eq_true z1, i1, e0]
      rw [gfork_cond']
      refine ⟨fun c2 => ?_, fun c2 => ?_⟩
      · replace hm := ifp hm c2
        have e0 := H.getP 0 rfl
        simp (maxSteps := 4000000) -implicitDefEqProofs (disch := omega) only [push_cast, Nat.reduceAdd, Nat.reduceLeDiff, Nat.reduceMul, Nat.reduceSub, Nat.reduceLT, Nat.reduceEqDiff, Int.reduceAdd, Int.reduceSub, Int.reduceLE, Int.reduceLT, Int.reduceEq, Int.reduceNe, Int.reduceToNat, Int.reduceNeg, reduceIte, reduceCtorEq, eq_true c1, eq_true z1, i1, eq_true c2, e0]
        exact retQ_back (.inl rfl) false _ rfl (Shift.refl _ _) H.sub hm
      · replace hm := ifn hm c2
        have e0 := H.getP 0 rfl
        simp (maxSteps := 4000000) -implicitDefEqProofs (disch := omega) only [push_cast, Nat.reduceAdd, Nat.reduceLeDiff, Nat.reduceMul, Nat.reduceSub, Nat.reduceLT, Nat.reduceEqDiff, Int.reduceAdd, Int.reduceSub, Int.reduceLE, Int.reduceLT, Int.reduceEq, Int.reduceNe, Int.reduceToNat, Int.reduceNeg, reduceIte, reduceCtorEq, eq_true c1, eq_true z1, i1, eq_false c2, e0]
        rw [gfork_cond']
        refine ⟨fun c3 => ?_, fun c3 => ?_⟩
        · replace hm := ifp hm c3
          have e0 := H.getP 0 rfl
          simp (maxSteps := 4000000) -implicitDefEqProofs (disch := omega) only [push_cast, Nat.reduceAdd, Nat.reduceLeDiff, Nat.reduceMul, Nat.reduceSub, Nat.reduceLT, Nat.reduceEqDiff, Int.reduceAdd, Int.reduceSub, Int.reduceLE, Int.reduceLT, Int.reduceEq, Int.reduceNe, Int.reduceToNat, Int.reduceNeg, reduceIte, reduceCtorEq, eq_true c1, eq_true z1, i1, eq_false c2, eq_true c3, e0]
          exact retQ_back (.inl rfl) false _ rfl (Shift.refl _ _) H.sub hm
        · replace hm := ifn hm c3
          have e0 := H.getP 0 rfl
          simp (maxSteps := 4000000) -implicitDefEqProofs (disch := omega) only [push_cast, Nat.reduceAdd, Nat.reduceLeDiff, Nat.reduceMul, Nat.reduceSub, Nat.reduceLT, Nat.reduceEqDiff, Int.reduceAdd, Int.reduceSub, Int.reduceLE, Int.reduceLT, Int.reduceEq, Int.reduceNe, Int.reduceToNat, Int.reduceNeg, reduceIte, reduceCtorEq, eq_true c1, eq_true z1, i1, eq_false c2, eq_false c3, e0]
          rw [gfork_cond]
          refine ⟨fun c4 => ?_, fun c4 => ?_⟩
          · replace hm := ifp hm c4
            obtain ⟨w1, hm⟩ := hm
            obtain ⟨z2, hm⟩ := hm
            obtain ⟨v2, i2, hm⟩ := hm
            have e0 := H.getP 0 rfl
            simp (maxSteps := 4000000) -implicitDefEqProofs (disch := omega) only [push_cast, Nat.reduceAdd, Nat.reduceLeDiff, Nat.reduceMul, Nat.reduceSub, Nat.reduceLT, Nat.reduceEqDiff, Int.reduceAdd, Int.reduceSub, Int.reduceLE, Int.reduceLT, Int.reduceEq, Int.reduceNe, Int.reduceToNat, Int.reduceNeg, reduceIte, reduceCtorEq, eq_true c1, eq_true z1, i1, eq_false c2, eq_false c3, eq_true c4, wrap_i64 _ w1, eq_true z2, i2, e0]
            rw [fork_cond]
            refine ⟨fun c5 => ?_, fun c5 => ?_⟩
            · replace hm := ifp hm c5
              have e0 := H.getP 0 rfl
              simp (maxSteps := 4000000) -implicitDefEqProofs (disch := omega) only [push_cast, Nat.reduceAdd, Nat.reduceLeDiff, Nat.reduceMul, Nat.reduceSub, Nat.reduceLT, Nat.reduceEqDiff, Int.reduceAdd, Int.reduceSub, Int.reduceLE, Int.reduceLT, Int.reduceEq, Int.reduceNe, Int.reduceToNat, Int.reduceNeg, reduceIte, reduceCtorEq, eq_true c1, eq_true z1, i1, eq_false c2, eq_false c3, eq_true c4, wrap_i64 _ w1, eq_true z2, i2, eq_true c5, e0]
              exact retQ_back (.inl rfl) false _ rfl (Shift.refl _ _) H.sub hm
            · replace hm := ifn hm c5
              have e0 := H.getP 0 rfl
              simp (maxSteps := 4000000) -implicitDefEqProofs (disch := omega) only [push_cast, Nat.reduceAdd, Nat.reduceLeDiff, Nat.reduceMul, Nat.reduceSub, Nat.reduceLT, Nat.reduceEqDiff, Int.reduceAdd, Int.reduceSub, Int.reduceLE, Int.reduceLT, Int.reduceEq, Int.reduceNe, Int.reduceToNat, Int.reduceNeg, reduceIte, reduceCtorEq, eq_true c1, eq_true z1, i1, eq_false c2, eq_false c3, eq_true c4, wrap_i64 _ w1, eq_true z2, i2, eq_false c5, e0]
              replace H := H.perm [0] (by decide)
              exact ⟨h2, by simp [Like, push_cast], rfl, H, hm⟩
          · replace hm := ifn hm c4
            have e0 := H.getP 0 rfl
            simp (maxSteps := 4000000) -implicitDefEqProofs (disch := omega) only [push_cast, Nat.reduceAdd, Nat.reduceLeDiff, Nat.reduceMul, Nat.reduceSub, Nat.reduceLT, Nat.reduceEqDiff, Int.reduceAdd, Int.reduceSub, Int.reduceLE, Int.reduceLT, Int.reduceEq, Int.reduceNe, Int.reduceToNat, Int.reduceNeg, reduceIte, reduceCtorEq, eq_true c1, eq_true z1, i1, eq_false c2, eq_false c3, eq_false c4, e0]
            replace H := H.perm [0] (by decide)
            exact ⟨h2, by simp [Like, push_cast], rfl, H, hm⟩
    · rintro ⟨tm, h3⟩ ⟨_, hL, rfl, H, hm⟩
      dsimp only at hL H
      obtain ⟨D, rfl⟩ := hL.fill 0
      replace hm := hk1 _ hm
      obtain ⟨w2, hm⟩ := hm
      have e0 := H.getP 0 rfl
      simp (maxSteps := 4000000) -implicitDefEqProofs (disch := omega) only [push_cast, Nat.reduceAdd, Nat.reduceLeDiff, Nat.reduceMul, Nat.reduceSub, Nat.reduceLT, Nat.reduceEqDiff, Int.reduceAdd, Int.reduceSub, Int.reduceLE, Int.reduceLT, Int.reduceEq, Int.reduceNe, Int.reduceToNat, Int.reduceNeg, reduceIte, reduceCtorEq, eq_true c1, wrap_i64 _ w2, e0]
      replace H := H.perm [0] (by decide)
      exact ⟨⟨a1 + 1, h3⟩, hm.2, ⟨hm.1, H⟩, Retell.weak (by simp [Weak, push_cast]) (Hp.sub.refl _)⟩
  · replace hm := ifn hm c1
    have e0 := H.getP 0 rfl
    simp (maxSteps := 4000000) -implicitDefEqProofs (disch := omega) only [push_cast, Nat.reduceAdd, Nat.reduceLeDiff, Nat.reduceMul, Nat.reduceSub, Nat.reduceLT, Nat.reduceEqDiff, Int.reduceAdd, Int.reduceSub, Int.reduceLE, Int.reduceLT, Int.reduceEq, Int.reduceNe, Int.reduceToNat, Int.reduceNeg, reduceIte, reduceCtorEq, eq_false c1, e0]
    exact retQ_back (.inl rfl) (decide (0 ≤ a0_.Pages)) _ rfl (Shift.refl _ _) H.sub hm
/-! stylus/stylusref35.change -/
abbrev n_stylusref35_change : Nat := 23
noncomputable def code_stylusref35_change : Code := match Tryd.f23.body with | some c => c | none => .skip
def ann_stylusref35_change : Nat → Ann
  | _ => {}
noncomputable def ac_stylusref35_change : AC :=
  (.seq (.reg [⟨some 2, (Op.box 25 (Operand.tmp 0)), none, false⟩, ⟨some 4, (Op.assign (Operand.const (Value.int IntKind.i64 0))), none, false⟩]) (.seq (.seq (.reg [⟨some 5, (Op.assign (Operand.const (Value.int IntKind.i64 0))), none, false⟩]) (.block 0 (.loop (.seq (.seq (.reg [⟨some 6, (Op.move (Operand.tmp 5)), none, false⟩, ⟨some 7, (Op.fieldAddr 25 (Operand.tmp 2) 1), none, false⟩, ⟨some 8, (Op.load 23 (Operand.tmp 7)), none, false⟩, ⟨some 9, (Op.call (Call.mk (Callee.builtin Builtin.len) #[(Operand.tmp 8)] #[23])), none, false⟩, ⟨some 10, (Op.binOp BinOp.lss 3 (Operand.tmp 6) (Operand.tmp 9) 3), none, false⟩]) (.cond (Operand.tmp 10) .skip (.exit 0))) (.seq (.block 1 (.seq (.reg [⟨some 13, (Op.fieldAddr 25 (Operand.tmp 2) 1), none, false⟩, ⟨some 14, (Op.load 23 (Operand.tmp 13)), none, false⟩, ⟨some 15, (Op.move (Operand.tmp 5)), none, false⟩, ⟨some 16, (Op.indexAddr 23 (Operand.tmp 14) (Operand.tmp 15)), none, false⟩, ⟨some 17, (Op.fieldAddr 40 (Operand.tmp 16) 0), none, false⟩, ⟨some 18, (Op.load 3 (Operand.tmp 17)), none, false⟩, ⟨some 19, (Op.move (Operand.tmp 1)), none, false⟩, ⟨some 20, (Op.binOp BinOp.eql 3 (Operand.tmp 18) (Operand.tmp 19) 3), none, false⟩]) (.cond (Operand.tmp 20) (.seq (.reg [⟨some 21, (Op.move (Operand.tmp 5)), none, false⟩, ⟨some 4, (Op.assign (Operand.tmp 21)), none, false⟩]) .ret) .skip))) (.reg [⟨some 11, (Op.move (Operand.tmp 5)), none, false⟩, ⟨some 12, (Op.binOp BinOp.add 3 (Operand.tmp 11) (Operand.const (Value.int IntKind.i64 1)) 3), none, false⟩, ⟨some 5, (Op.assign (Operand.tmp 12)), none, false⟩])))))) (.seq (.reg [⟨some 4, (Op.assign (Operand.const (Value.int IntKind.i64 (-1)))), none, false⟩]) .ret)))
theorem body_stylusref35_change : Tryd.f23.body = some code_stylusref35_change := by kernel_rfl
theorem slim_stylusref35_change : slim ann_stylusref35_change code_stylusref35_change = some ac_stylusref35_change := by kernel_rfl
theorem name_stylusref35_change : (Tryd.f23.name == "runtime.NumGoroutine") = false := by kernel_rfl
theorem enter_stylusref35_change {args : List AV} {h : Hp} {Q : AE → Hp → Prop} (H : awp Tryd.prog tab ac_stylusref35_change (retQ tab [(ResultVar.tmp 4)] Q) ⟨args ++ List.replicate (22 - args.length) .any, h⟩) : ACalls Tryd.prog 23 args h Q :=
  acalls_of tab_ok mixed Tryd.func23 body_stylusref35_change name_stylusref35_change slim_stylusref35_change rfl Tryd.ntmps23 H
/-- stylus/stylusref35.change -/
def stylusref35_change.w (a0_ : ApiPatch) (a1_ : Int) (Q : Int → Prop) : Prop :=
  wloop (σ := Int) (fun a1 next1 =>
    if a1 < (a0_.Changes.length : Int) then
      (0 ≤ a1) ∧
      ∃ v1 : ApiChange, a0_.Changes[a1.toNat]? = some v1 ∧
      if v1.Page = a1_ then
        Q a1
      else
        (I64 (a1 + 1)) ∧
        next1 (a1 + 1)
    else
      Q (-1)) 0
theorem stylusref35_change.ok {a0_ : ApiPatch} {a1_ : Int} {Q : Int → Prop} (hm : stylusref35_change.w a0_ a1_ Q) (h0 : Hp) : ACalls Tryd.prog n_stylusref35_change [(.agg (ApiPatch.enc a0_)), (aint a1_)] h0 (Back h0 (fun r => (aint r)) Q) := by
  refine enter_stylusref35_change ?_
  unfold stylusref35_change.w at hm
  have H := AM.Own.nil h0
  simp (maxSteps := 4000000) -implicitDefEqProofs (disch := omega) only [push_cast, Nat.reduceAdd, Nat.reduceLeDiff, Nat.reduceMul, Nat.reduceSub, Nat.reduceLT, Nat.reduceEqDiff, Int.reduceAdd, Int.reduceSub, Int.reduceLE, Int.reduceLT, Int.reduceEq, Int.reduceNe, Int.reduceToNat, Int.reduceNeg, reduceIte, reduceCtorEq, ac_stylusref35_change]
  refine H.newR (ApiPatch.enc a0_) rfl (fun b1 h1 H => ?_)
  have e0 := H.getP 0 rfl
  simp (maxSteps := 4000000) -implicitDefEqProofs (disch := omega) only [push_cast, Nat.reduceAdd, Nat.reduceLeDiff, Nat.reduceMul, Nat.reduceSub, Nat.reduceLT, Nat.reduceEqDiff, Int.reduceAdd, Int.reduceSub, Int.reduceLE, Int.reduceLT, Int.reduceEq, Int.reduceNe, Int.reduceToNat, Int.reduceNeg, reduceIte, reduceCtorEq, e0]
  obtain ⟨inv1, mu1, hi1, hs1⟩ := hm
  replace H := H.perm [0] (by decide)
  refine awp_loop (σ := Int × Hp) (fun ⟨a1, h2⟩ => ⟨(((List.replicate 22 AV.any).set 1 (aint a1_)).set 2 (.optr b1 2 0 0)).set 5 (aint a1), h2⟩) (fun ⟨a1, h2⟩ => inv1 a1 ∧ AM.Own h0 h2 [⟨(.optr b1 2 0 0), true, 2, [(ApiPatch.enc a0_)], some (25, 2)⟩]) (fun ⟨a1, h2⟩ => mu1 a1) ⟨0, h1⟩ (Retell.weak (by simp [Weak, push_cast]) (Hp.sub.refl _)) ⟨hi1, H⟩ ?_
  rintro ⟨a1, h2⟩ ⟨hi1, H⟩
  have hm := hs1 _ hi1
  dsimp only at hm H ⊢
  have e0 := H.getP 0 rfl
  simp (maxSteps := 4000000) -implicitDefEqProofs (disch := omega) only [push_cast, Nat.reduceAdd, Nat.reduceLeDiff, Nat.reduceMul, Nat.reduceSub, Nat.reduceLT, Nat.reduceEqDiff, Int.reduceAdd, Int.reduceSub, Int.reduceLE, Int.reduceLT, Int.reduceEq, Int.reduceNe, Int.reduceToNat, Int.reduceNeg, reduceIte, reduceCtorEq, e0]
  rw [fork_cond]
  refine ⟨fun c1 => ?_, fun c1 => ?_⟩
  · replace hm := ifp hm c1
    obtain ⟨z1, hm⟩ := hm
    obtain ⟨v1, i1, hm⟩ := hm
    have e0 := H.getP 0 rfl
    simp (maxSteps := 4000000) -implicitDefEqProofs (disch := omega) only [push_cast, Nat.reduceAdd, Nat.reduceLeDiff, Nat.reduceMul, Nat.reduceSub, Nat.reduceLT, Nat.reduceEqDiff, Int.reduceAdd, Int.reduceSub, Int.reduceLE, Int.reduceLT, Int.reduceEq, Int.reduceNe, Int.reduceToNat, Int.reduceNeg, reduceIte, reduceCtorEq, eq_true c1, eq_true z1, i1, e0]
    rw [fork_cond]
    refine ⟨fun c2 => ?_, fun c2 => ?_⟩
    · replace hm := ifp hm c2
      have e0 := H.getP 0 rfl
      simp (maxSteps := 4000000) -implicitDefEqProofs (disch := omega) only [push_cast, Nat.reduceAdd, Nat.reduceLeDiff, Nat.reduceMul, Nat.reduceSub, Nat.reduceLT, Nat.reduceEqDiff, Int.reduceAdd, Int.reduceSub, Int.reduceLE, Int.reduceLT, Int.reduceEq, Int.reduceNe, Int.reduceToNat, Int.reduceNeg, reduceIte, reduceCtorEq, eq_true c1, eq_true z1, i1, eq_true c2, e0]
      exact retQ_back (.inl rfl) a1 _ rfl (Shift.refl _ _) H.sub hm
    · replace hm := ifn hm c2
      obtain ⟨w1, hm⟩ := hm
      have e0 := H.getP 0 rfl
      simp (maxSteps := 4000000) -implicitDefEqProofs (disch := omega) only [push_cast, Nat.reduceAdd, Nat.reduceLeDiff, Nat.reduceMul, Nat.reduceSub, Nat.reduceLT, Nat.reduceEqDiff, Int.reduceAdd, Int.reduceSub, Int.reduceLE, Int.reduceLT, Int.reduceEq, Int.reduceNe, Int.reduceToNat, Int.reduceNeg, reduceIte, reduceCtorEq, eq_true c1, eq_true z1, i1, eq_false c2, wrap_i64 _ w1, e0]
      replace H := H.perm [0] (by decide)
      exact ⟨⟨a1 + 1, h2⟩, hm.2, ⟨hm.1, H⟩, Retell.weak (by simp [Weak, push_cast]) (Hp.sub.refl _)⟩
  · replace hm := ifn hm c1
    have e0 := H.getP 0 rfl
    simp (maxSteps := 4000000) -implicitDefEqProofs (disch := omega) only [push_cast, Nat.reduceAdd, Nat.reduceLeDiff, Nat.reduceMul, Nat.reduceSub, Nat.reduceLT, Nat.reduceEqDiff, Int.reduceAdd, Int.reduceSub, Int.reduceLE, Int.reduceLT, Int.reduceEq, Int.reduceNe, Int.reduceToNat, Int.reduceNeg, reduceIte, reduceCtorEq, eq_false c1, e0]
    exact retQ_back (.inl rfl) (-1) _ rfl (Shift.refl _ _) H.sub hm
/-! stylus/styluslaw35.wide -/
abbrev n_styluslaw35_wide : Nat := 18
noncomputable def code_styluslaw35_wide : Code := match Tryd.f18.body with | some c => c | none => .skip
def ann_styluslaw35_wide : Nat → Ann
  | _ => {}
noncomputable def ac_styluslaw35_wide : AC :=
  (.seq (.reg [⟨some 2, (Op.assign (Operand.const (Value.bool false))), none, false⟩]) (.seq (.seq (.reg [⟨some 3, (Op.assign (Operand.const (Value.int IntKind.i64 0))), none, false⟩]) (.block 0 (.loop (.seq (.seq (.reg [⟨some 4, (Op.move (Operand.tmp 3)), none, false⟩, ⟨some 5, (Op.move (Operand.tmp 0)), none, false⟩, ⟨some 6, (Op.call (Call.mk (Callee.builtin Builtin.len) #[(Operand.tmp 5)] #[38])), none, false⟩, ⟨some 7, (Op.binOp BinOp.lss 3 (Operand.tmp 4) (Operand.tmp 6) 3), none, false⟩]) (.cond (Operand.tmp 7) .skip (.exit 0))) (.seq (.block 1 (.seq (.reg [⟨some 10, (Op.move (Operand.tmp 0)), none, false⟩, ⟨some 11, (Op.move (Operand.tmp 3)), none, false⟩, ⟨some 12, (Op.indexAddr 38 (Operand.tmp 10) (Operand.tmp 11)), none, false⟩, ⟨some 13, (Op.load 9 (Operand.tmp 12)), none, false⟩, ⟨some 14, (Op.call (Call.mk (Callee.builtin Builtin.len) #[(Operand.tmp 13)] #[9])), none, false⟩, ⟨some 15, (Op.binOp BinOp.gtr 3 (Operand.tmp 14) (Operand.const (Value.int IntKind.i64 200)) 3), none, false⟩]) (.cond (Operand.tmp 15) (.seq (.reg [⟨some 2, (Op.assign (Operand.const (Value.bool true))), none, false⟩]) .ret) .skip))) (.reg [⟨some 8, (Op.move (Operand.tmp 3)), none, false⟩, ⟨some 9, (Op.binOp BinOp.add 3 (Operand.tmp 8) (Operand.const (Value.int IntKind.i64 1)) 3), none, false⟩, ⟨some 3, (Op.assign (Operand.tmp 9)), none, false⟩])))))) (.seq (.reg [⟨some 16, (Op.move (Operand.tmp 0)), none, false⟩, ⟨some 17, (Op.call (Call.mk (Callee.builtin Builtin.len) #[(Operand.tmp 16)] #[38])), none, false⟩, ⟨some 18, (Op.binOp BinOp.gtr 3 (Operand.tmp 17) (Operand.const (Value.int IntKind.i64 60)) 3), none, false⟩, ⟨some 2, (Op.assign (Operand.tmp 18)), none, false⟩]) .ret)))
theorem body_styluslaw35_wide : Tryd.f18.body = some code_styluslaw35_wide := by kernel_rfl
theorem slim_styluslaw35_wide : slim ann_styluslaw35_wide code_styluslaw35_wide = some ac_styluslaw35_wide := by kernel_rfl
theorem name_styluslaw35_wide : (Tryd.f18.name == "runtime.NumGoroutine") = false := by kernel_rfl
theorem enter_styluslaw35_wide {args : List AV} {h : Hp} {Q : AE → Hp → Prop} (H : awp Tryd.prog tab ac_styluslaw35_wide (retQ tab [(ResultVar.tmp 2)] Q) ⟨args ++ List.replicate (19 - args.length) .any, h⟩) : ACalls Tryd.prog 18 args h Q :=
  acalls_of tab_ok mixed Tryd.func18 body_styluslaw35_wide name_styluslaw35_wide slim_styluslaw35_wide rfl Tryd.ntmps18 H
/-- stylus/styluslaw35.wide -/
def styluslaw35_wide.w (a0_ : List ByteArray) (Q : Bool → Prop) : Prop :=
  wloop (σ := Int) (fun a1 next1 =>
    if a1 < (a0_.length : Int) then
      (0 ≤ a1) ∧
      ∃ v1 : ByteArray, a0_[a1.toNat]? = some v1 ∧
      if 200 < (v1.size : Int) then
        Q true
      else
        (I64 (a1 + 1)) ∧
        next1 (a1 + 1)
    else
      Q (decide (60 < (a0_.length : Int)))) 0
theorem styluslaw35_wide.ok {a0_ : List ByteArray} {Q : Bool → Prop} (hm : styluslaw35_wide.w a0_ Q) (h0 : Hp) : ACalls Tryd.prog n_styluslaw35_wide [(.isl 1 (a0_.map AM.encStr))] h0 (Back h0 (fun r => (abool r)) Q) := by
  refine enter_styluslaw35_wide ?_
  unfold styluslaw35_wide.w at hm
  have H := AM.Own.nil h0
  simp (maxSteps := 4000000) -implicitDefEqProofs (disch := omega) only [push_cast, Nat.reduceAdd, Nat.reduceLeDiff, Nat.reduceMul, Nat.reduceSub, Nat.reduceLT, Nat.reduceEqDiff, Int.reduceAdd, Int.reduceSub, Int.reduceLE, Int.reduceLT, Int.reduceEq, Int.reduceNe, Int.reduceToNat, Int.reduceNeg, reduceIte, reduceCtorEq, ac_styluslaw35_wide]
  obtain ⟨inv1, mu1, hi1, hs1⟩ := hm
  replace H := H.perm [] (by decide)
  refine awp_loop (σ := Int × Hp) (fun ⟨a1, h1⟩ => ⟨((List.replicate 19 AV.any).set 0 (.isl 1 (a0_.map AM.encStr))).set 3 (aint a1), h1⟩) (fun ⟨a1, h1⟩ => inv1 a1 ∧ AM.Own h0 h1 []) (fun ⟨a1, h1⟩ => mu1 a1) ⟨0, h0⟩ (Retell.weak (by simp [Weak, push_cast]) (Hp.sub.refl _)) ⟨hi1, H⟩ ?_
  rintro ⟨a1, h1⟩ ⟨hi1, H⟩
  have hm := hs1 _ hi1
  dsimp only at hm H ⊢
  simp (maxSteps := 4000000) -implicitDefEqProofs (disch := omega) only [push_cast, Nat.reduceAdd, Nat.reduceLeDiff, Nat.reduceMul, Nat.reduceSub, Nat.reduceLT, Nat.reduceEqDiff, Int.reduceAdd, Int.reduceSub, Int.reduceLE, Int.reduceLT, Int.reduceEq, Int.reduceNe, Int.reduceToNat, Int.reduceNeg, reduceIte, reduceCtorEq]
  rw [fork_cond]
  refine ⟨fun c1 => ?_, fun c1 => ?_⟩
  · replace hm := ifp hm c1
    obtain ⟨z1, hm⟩ := hm
    obtain ⟨v1, i1, hm⟩ := hm
    simp (maxSteps := 4000000) -implicitDefEqProofs (disch := omega) only [push_cast, Nat.reduceAdd, Nat.reduceLeDiff, Nat.reduceMul, Nat.reduceSub, Nat.reduceLT, Nat.reduceEqDiff, Int.reduceAdd, Int.reduceSub, Int.reduceLE, Int.reduceLT, Int.reduceEq, Int.reduceNe, Int.reduceToNat, Int.reduceNeg, reduceIte, reduceCtorEq, eq_true c1, eq_true z1, i1]
    rw [fork_cond]
    refine ⟨fun c2 => ?_, fun c2 => ?_⟩
    · replace hm := ifp hm c2
      simp (maxSteps := 4000000) -implicitDefEqProofs (disch := omega) only [push_cast, Nat.reduceAdd, Nat.reduceLeDiff, Nat.reduceMul, Nat.reduceSub, Nat.reduceLT, Nat.reduceEqDiff, Int.reduceAdd, Int.reduceSub, Int.reduceLE, Int.reduceLT, Int.reduceEq, Int.reduceNe, Int.reduceToNat, Int.reduceNeg, reduceIte, reduceCtorEq, eq_true c1, eq_true z1, i1, eq_true c2]
      exact retQ_back (.inl rfl) true _ rfl (Shift.refl _ _) H.sub hm
    · replace hm := ifn hm c2
      obtain ⟨w1, hm⟩ := hm
      simp (maxSteps := 4000000) -implicitDefEqProofs (disch := omega) only [push_cast, Nat.reduceAdd, Nat.reduceLeDiff, Nat.reduceMul, Nat.reduceSub, Nat.reduceLT, Nat.reduceEqDiff, Int.reduceAdd, Int.reduceSub, Int.reduceLE, Int.reduceLT, Int.reduceEq, Int.reduceNe, Int.reduceToNat, Int.reduceNeg, reduceIte, reduceCtorEq, eq_true c1, eq_true z1, i1, eq_false c2, wrap_i64 _ w1]
      replace H := H.perm [] (by decide)
      exact ⟨⟨a1 + 1, h1⟩, hm.2, ⟨hm.1, H⟩, Retell.weak (by simp [Weak, push_cast]) (Hp.sub.refl _)⟩
  · replace hm := ifn hm c1
    simp (maxSteps := 4000000) -implicitDefEqProofs (disch := omega) only [push_cast, Nat.reduceAdd, Nat.reduceLeDiff, Nat.reduceMul, Nat.reduceSub, Nat.reduceLT, Nat.reduceEqDiff, Int.reduceAdd, Int.reduceSub, Int.reduceLE, Int.reduceLT, Int.reduceEq, Int.reduceNe, Int.reduceToNat, Int.reduceNeg, reduceIte, reduceCtorEq, eq_false c1]
    exact retQ_back (.inl rfl) (decide (60 < (a0_.length : Int))) _ rfl (Shift.refl _ _) H.sub hm
/-! stylus/styluslaw35.long -/
abbrev n_styluslaw35_long : Nat := 5
noncomputable def code_styluslaw35_long : Code := match Tryd.f5.body with | some c => c | none => .skip
def ann_styluslaw35_long : Nat → Ann
  | _ => {}
noncomputable def ac_styluslaw35_long : AC :=
  (.seq (.reg [⟨some 2, (Op.assign (Operand.const (Value.bool false))), none, false⟩]) (.seq (.seq (.reg [⟨some 3, (Op.assign (Operand.const (Value.int IntKind.i64 0))), none, false⟩]) (.block 0 (.loop (.seq (.seq (.reg [⟨some 4, (Op.move (Operand.tmp 3)), none, false⟩, ⟨some 5, (Op.move (Operand.tmp 0)), none, false⟩, ⟨some 6, (Op.call (Call.mk (Callee.builtin Builtin.len) #[(Operand.tmp 5)] #[22])), none, false⟩, ⟨some 7, (Op.binOp BinOp.lss 3 (Operand.tmp 4) (Operand.tmp 6) 3), none, false⟩]) (.cond (Operand.tmp 7) .skip (.exit 0))) (.seq (.block 1 (.seq (.reg [⟨some 10, (Op.move (Operand.tmp 0)), none, false⟩, ⟨some 11, (Op.move (Operand.tmp 3)), none, false⟩, ⟨some 12, (Op.indexAddr 22 (Operand.tmp 10) (Operand.tmp 11)), none, false⟩, ⟨some 13, (Op.load 38 (Operand.tmp 12)), none, false⟩, ⟨some 14, (Op.call (Call.mk (Callee.value (Operand.func 18)) #[(Operand.tmp 13)] #[38])), none, false⟩]) (.cond (Operand.tmp 14) (.seq (.reg [⟨some 2, (Op.assign (Operand.const (Value.bool true))), none, false⟩]) .ret) .skip))) (.reg [⟨some 8, (Op.move (Operand.tmp 3)), none, false⟩, ⟨some 9, (Op.binOp BinOp.add 3 (Operand.tmp 8) (Operand.const (Value.int IntKind.i64 1)) 3), none, false⟩, ⟨some 3, (Op.assign (Operand.tmp 9)), none, false⟩])))))) (.seq (.reg [⟨some 15, (Op.move (Operand.tmp 0)), none, false⟩, ⟨some 16, (Op.call (Call.mk (Callee.builtin Builtin.len) #[(Operand.tmp 15)] #[22])), none, false⟩, ⟨some 17, (Op.binOp BinOp.gtr 3 (Operand.tmp 16) (Operand.const (Value.int IntKind.i64 60)) 3), none, false⟩, ⟨some 2, (Op.assign (Operand.tmp 17)), none, false⟩]) .ret)))
theorem body_styluslaw35_long : Tryd.f5.body = some code_styluslaw35_long := by kernel_rfl
theorem slim_styluslaw35_long : slim ann_styluslaw35_long code_styluslaw35_long = some ac_styluslaw35_long := by kernel_rfl
theorem name_styluslaw35_long : (Tryd.f5.name == "runtime.NumGoroutine") = false := by kernel_rfl
theorem enter_styluslaw35_long {args : List AV} {h : Hp} {Q : AE → Hp → Prop} (H : awp Tryd.prog tab ac_styluslaw35_long (retQ tab [(ResultVar.tmp 2)] Q) ⟨args ++ List.replicate (18 - args.length) .any, h⟩) : ACalls Tryd.prog 5 args h Q :=
  acalls_of tab_ok mixed Tryd.func5 body_styluslaw35_long name_styluslaw35_long slim_styluslaw35_long rfl Tryd.ntmps5 H
/-- stylus/styluslaw35.long -/
def styluslaw35_long.w (a0_ : List (List ByteArray)) (Q : Bool → Prop) : Prop :=
  wloop (σ := Int) (fun a1 next1 =>
    if a1 < (a0_.length : Int) then
      (0 ≤ a1) ∧
      ∃ v1 : List ByteArray, a0_[a1.toNat]? = some v1 ∧
      styluslaw35_wide.w v1 (fun r1 =>
        if r1 = true then
          Q true
        else
          (I64 (a1 + 1)) ∧
          next1 (a1 + 1))
    else
      Q (decide (60 < (a0_.length : Int)))) 0
theorem styluslaw35_long.ok {a0_ : List (List ByteArray)} {Q : Bool → Prop} (hm : styluslaw35_long.w a0_ Q) (h0 : Hp) : ACalls Tryd.prog n_styluslaw35_long [(.isl 1 (a0_.map (encSl 1 AM.encStr)))] h0 (Back h0 (fun r => (abool r)) Q) := by
  refine enter_styluslaw35_long ?_
  unfold styluslaw35_long.w at hm
  have H := AM.Own.nil h0
  simp (maxSteps := 4000000) -implicitDefEqProofs (disch := omega) only [push_cast, Nat.reduceAdd, Nat.reduceLeDiff, Nat.reduceMul, Nat.reduceSub, Nat.reduceLT, Nat.reduceEqDiff, Int.reduceAdd, Int.reduceSub, Int.reduceLE, Int.reduceLT, Int.reduceEq, Int.reduceNe, Int.reduceToNat, Int.reduceNeg, reduceIte, reduceCtorEq, ac_styluslaw35_long]
  obtain ⟨inv1, mu1, hi1, hs1⟩ := hm
  replace H := H.perm [] (by decide)
  refine awp_loop (σ := Int × Hp) (fun ⟨a1, h1⟩ => ⟨((List.replicate 18 AV.any).set 0 (.isl 1 (a0_.map (encSl 1 AM.encStr)))).set 3 (aint a1), h1⟩) (fun ⟨a1, h1⟩ => inv1 a1 ∧ AM.Own h0 h1 []) (fun ⟨a1, h1⟩ => mu1 a1) ⟨0, h0⟩ (Retell.weak (by simp [Weak, push_cast]) (Hp.sub.refl _)) ⟨hi1, H⟩ ?_
  rintro ⟨a1, h1⟩ ⟨hi1, H⟩
  have hm := hs1 _ hi1
  dsimp only at hm H ⊢
  simp (maxSteps := 4000000) -implicitDefEqProofs (disch := omega) only [push_cast, Nat.reduceAdd, Nat.reduceLeDiff, Nat.reduceMul, Nat.reduceSub, Nat.reduceLT, Nat.reduceEqDiff, Int.reduceAdd, Int.reduceSub, Int.reduceLE, Int.reduceLT, Int.reduceEq, Int.reduceNe, Int.reduceToNat, Int.reduceNeg, reduceIte, reduceCtorEq]
  rw [fork_cond]
  refine ⟨fun c1 => ?_, fun c1 => ?_⟩
  · replace hm := ifp hm c1
    obtain ⟨z1, hm⟩ := hm
    obtain ⟨v1, i1, hm⟩ := hm
    simp (maxSteps := 4000000) -implicitDefEqProofs (disch := omega) only [push_cast, Nat.reduceAdd, Nat.reduceLeDiff, Nat.reduceMul, Nat.reduceSub, Nat.reduceLT, Nat.reduceEqDiff, Int.reduceAdd, Int.reduceSub, Int.reduceLE, Int.reduceLT, Int.reduceEq, Int.reduceNe, Int.reduceToNat, Int.reduceNeg, reduceIte, reduceCtorEq, eq_true c1, eq_true z1, i1]
    refine calls_w (fun h => styluslaw35_wide.ok hm h) (fun r1 hm => ?_)
    simp (maxSteps := 4000000) -implicitDefEqProofs (disch := omega) only [push_cast, Nat.reduceAdd, Nat.reduceLeDiff, Nat.reduceMul, Nat.reduceSub, Nat.reduceLT, Nat.reduceEqDiff, Int.reduceAdd, Int.reduceSub, Int.reduceLE, Int.reduceLT, Int.reduceEq, Int.reduceNe, Int.reduceToNat, Int.reduceNeg, reduceIte, reduceCtorEq, eq_true c1, eq_true z1, i1]
    rw [fork_bool]
    refine ⟨fun c2 => ?_, fun c2 => ?_⟩
    · replace hm := ifp hm c2
      simp (maxSteps := 4000000) -implicitDefEqProofs (disch := omega) only [push_cast, Nat.reduceAdd, Nat.reduceLeDiff, Nat.reduceMul, Nat.reduceSub, Nat.reduceLT, Nat.reduceEqDiff, Int.reduceAdd, Int.reduceSub, Int.reduceLE, Int.reduceLT, Int.reduceEq, Int.reduceNe, Int.reduceToNat, Int.reduceNeg, reduceIte, reduceCtorEq, eq_true c1, eq_true z1, i1, c2]
      exact retQ_back (.inl rfl) true _ rfl (Shift.refl _ _) H.sub hm
    · replace hm := ifn hm (by rw [c2]; exact Bool.false_ne_true)
      obtain ⟨w1, hm⟩ := hm
      simp (maxSteps := 4000000) -implicitDefEqProofs (disch := omega) only [push_cast, Nat.reduceAdd, Nat.reduceLeDiff, Nat.reduceMul, Nat.reduceSub, Nat.reduceLT, Nat.reduceEqDiff, Int.reduceAdd, Int.reduceSub, Int.reduceLE, Int.reduceLT, Int.reduceEq, Int.reduceNe, Int.reduceToNat, Int.reduceNeg, reduceIte, reduceCtorEq, eq_true c1, eq_true z1, i1, c2, wrap_i64 _ w1]
      replace H := H.perm [] (by decide)
      exact ⟨⟨a1 + 1, h1⟩, hm.2, ⟨hm.1, H⟩, Retell.weak (by simp [Weak, push_cast]) (Hp.sub.refl _)⟩
  · replace hm := ifn hm c1
    simp (maxSteps := 4000000) -implicitDefEqProofs (disch := omega) only [push_cast, Nat.reduceAdd, Nat.reduceLeDiff, Nat.reduceMul, Nat.reduceSub, Nat.reduceLT, Nat.reduceEqDiff, Int.reduceAdd, Int.reduceSub, Int.reduceLE, Int.reduceLT, Int.reduceEq, Int.reduceNe, Int.reduceToNat, Int.reduceNeg, reduceIte, reduceCtorEq, eq_false c1]
    exact retQ_back (.inl rfl) (decide (60 < (a0_.length : Int))) _ rfl (Shift.refl _ _) H.sub hm
/-! stylus/styluslaw35.many -/
abbrev n_styluslaw35_many : Nat := 6
noncomputable def code_styluslaw35_many : Code := match Tryd.f6.body with | some c => c | none => .skip
def ann_styluslaw35_many : Nat → Ann
  | _ => {}
noncomputable def ac_styluslaw35_many : AC :=
  (.seq (.reg [⟨some 1, (Op.box 25 (Operand.tmp 0)), none, false⟩, ⟨some 2, (Op.assign (Operand.const (Value.bool false))), none, false⟩]) (.seq (.seq (.reg [⟨some 3, (Op.assign (Operand.const (Value.int IntKind.i64 0))), none, false⟩]) (.block 0 (.loop (.seq (.seq (.reg [⟨some 4, (Op.move (Operand.tmp 3)), none, false⟩, ⟨some 5, (Op.fieldAddr 25 (Operand.tmp 1) 1), none, false⟩, ⟨some 6, (Op.load 23 (Operand.tmp 5)), none, false⟩, ⟨some 7, (Op.call (Call.mk (Callee.builtin Builtin.len) #[(Operand.tmp 6)] #[23])), none, false⟩, ⟨some 8, (Op.binOp BinOp.lss 3 (Operand.tmp 4) (Operand.tmp 7) 3), none, false⟩]) (.cond (Operand.tmp 8) .skip (.exit 0))) (.seq (.block 1 (.seq (.reg [⟨some 11, (Op.fieldAddr 25 (Operand.tmp 1) 1), none, false⟩, ⟨some 12, (Op.load 23 (Operand.tmp 11)), none, false⟩, ⟨some 13, (Op.move (Operand.tmp 3)), none, false⟩, ⟨some 14, (Op.indexAddr 23 (Operand.tmp 12) (Operand.tmp 13)), none, false⟩, ⟨some 15, (Op.fieldAddr 40 (Operand.tmp 14) 1), none, false⟩, ⟨some 16, (Op.load 38 (Operand.tmp 15)), none, false⟩, ⟨some 17, (Op.call (Call.mk (Callee.value (Operand.func 18)) #[(Operand.tmp 16)] #[38])), none, false⟩]) (.cond (Operand.tmp 17) (.seq (.reg [⟨some 2, (Op.assign (Operand.const (Value.bool true))), none, false⟩]) .ret) .skip))) (.reg [⟨some 9, (Op.move (Operand.tmp 3)), none, false⟩, ⟨some 10, (Op.binOp BinOp.add 3 (Operand.tmp 9) (Operand.const (Value.int IntKind.i64 1)) 3), none, false⟩, ⟨some 3, (Op.assign (Operand.tmp 10)), none, false⟩])))))) (.seq (.reg [⟨some 18, (Op.fieldAddr 25 (Operand.tmp 1) 1), none, false⟩, ⟨some 19, (Op.load 23 (Operand.tmp 18)), none, false⟩, ⟨some 20, (Op.call (Call.mk (Callee.builtin Builtin.len) #[(Operand.tmp 19)] #[23])), none, false⟩, ⟨some 21, (Op.binOp BinOp.gtr 3 (Operand.tmp 20) (Operand.const (Value.int IntKind.i64 60)) 3), none, false⟩, ⟨some 2, (Op.assign (Operand.tmp 21)), none, false⟩]) .ret)))
theorem body_styluslaw35_many : Tryd.f6.body = some code_styluslaw35_many := by kernel_rfl
theorem slim_styluslaw35_many : slim ann_styluslaw35_many code_styluslaw35_many = some ac_styluslaw35_many := by kernel_rfl
theorem name_styluslaw35_many : (Tryd.f6.name == "runtime.NumGoroutine") = false := by kernel_rfl
theorem enter_styluslaw35_many {args : List AV} {h : Hp} {Q : AE → Hp → Prop} (H : awp Tryd.prog tab ac_styluslaw35_many (retQ tab [(ResultVar.tmp 2)] Q) ⟨args ++ List.replicate (22 - args.length) .any, h⟩) : ACalls Tryd.prog 6 args h Q :=
  acalls_of tab_ok mixed Tryd.func6 body_styluslaw35_many name_styluslaw35_many slim_styluslaw35_many rfl Tryd.ntmps6 H
/-- stylus/styluslaw35.many -/
def styluslaw35_many.w (a0_ : ApiPatch) (Q : Bool → Prop) : Prop :=
  wloop (σ := Int) (fun a1 next1 =>
    if a1 < (a0_.Changes.length : Int) then
      (0 ≤ a1) ∧
      ∃ v1 : ApiChange, a0_.Changes[a1.toNat]? = some v1 ∧
      styluslaw35_wide.w v1.Lines (fun r1 =>
        if r1 = true then
          Q true
        else
          (I64 (a1 + 1)) ∧
          next1 (a1 + 1))
    else
      Q (decide (60 < (a0_.Changes.length : Int)))) 0
theorem styluslaw35_many.ok {a0_ : ApiPatch} {Q : Bool → Prop} (hm : styluslaw35_many.w a0_ Q) (h0 : Hp) : ACalls Tryd.prog n_styluslaw35_many [(.agg (ApiPatch.enc a0_))] h0 (Back h0 (fun r => (abool r)) Q) := by
  refine enter_styluslaw35_many ?_
  unfold styluslaw35_many.w at hm
  have H := AM.Own.nil h0
  simp (maxSteps := 4000000) -implicitDefEqProofs (disch := omega) only [push_cast, Nat.reduceAdd, Nat.reduceLeDiff, Nat.reduceMul, Nat.reduceSub, Nat.reduceLT, Nat.reduceEqDiff, Int.reduceAdd, Int.reduceSub, Int.reduceLE, Int.reduceLT, Int.reduceEq, Int.reduceNe, Int.reduceToNat, Int.reduceNeg, reduceIte, reduceCtorEq, ac_styluslaw35_many]
  refine H.newR (ApiPatch.enc a0_) rfl (fun b1 h1 H => ?_)
  have e0 := H.getP 0 rfl
  simp (maxSteps := 4000000) -implicitDefEqProofs (disch := omega) only [push_cast, Nat.reduceAdd, Nat.reduceLeDiff, Nat.reduceMul, Nat.reduceSub, Nat.reduceLT, Nat.reduceEqDiff, Int.reduceAdd, Int.reduceSub, Int.reduceLE, Int.reduceLT, Int.reduceEq, Int.reduceNe, Int.reduceToNat, Int.reduceNeg, reduceIte, reduceCtorEq, e0]
  obtain ⟨inv1, mu1, hi1, hs1⟩ := hm
  replace H := H.perm [0] (by decide)
  refine awp_loop (σ := Int × Hp) (fun ⟨a1, h2⟩ => ⟨((List.replicate 22 AV.any).set 1 (.optr b1 2 0 0)).set 3 (aint a1), h2⟩) (fun ⟨a1, h2⟩ => inv1 a1 ∧ AM.Own h0 h2 [⟨(.optr b1 2 0 0), true, 2, [(ApiPatch.enc a0_)], some (25, 2)⟩]) (fun ⟨a1, h2⟩ => mu1 a1) ⟨0, h1⟩ (Retell.weak (by simp [Weak, push_cast]) (Hp.sub.refl _)) ⟨hi1, H⟩ ?_
  rintro ⟨a1, h2⟩ ⟨hi1, H⟩
  have hm := hs1 _ hi1
  dsimp only at hm H ⊢
  have e0 := H.getP 0 rfl
  simp (maxSteps := 4000000) -implicitDefEqProofs (disch := omega) only [push_cast, Nat.reduceAdd, Nat.reduceLeDiff, Nat.reduceMul, Nat.reduceSub, Nat.reduceLT, Nat.reduceEqDiff, Int.reduceAdd, Int.reduceSub, Int.reduceLE, Int.reduceLT, Int.reduceEq, Int.reduceNe, Int.reduceToNat, Int.reduceNeg, reduceIte, reduceCtorEq, e0]
  rw [fork_cond]
  refine ⟨fun c1 => ?_, fun c1 => ?_⟩
  · replace hm := ifp hm c1
    obtain ⟨z1, hm⟩ := hm
    obtain ⟨v1, i1, hm⟩ := hm
    have e0 := H.getP 0 rfl
    simp (maxSteps := 4000000) -implicitDefEqProofs (disch := omega) only [push_cast, Nat.reduceAdd, Nat.reduceLeDiff, Nat.reduceMul, Nat.reduceSub, Nat.reduceLT, Nat.reduceEqDiff, Int.reduceAdd, Int.reduceSub, Int.reduceLE, Int.reduceLT, Int.reduceEq, Int.reduceNe, Int.reduceToNat, Int.reduceNeg, reduceIte, reduceCtorEq, eq_true c1, eq_true z1, i1, e0]
    refine calls_w (fun h => styluslaw35_wide.ok hm h) (fun r1 hm => ?_)
    have e0 := H.getP 0 rfl
    simp (maxSteps := 4000000) -implicitDefEqProofs (disch := omega) only [push_cast, Nat.reduceAdd, Nat.reduceLeDiff, Nat.reduceMul, Nat.reduceSub, Nat.reduceLT, Nat.reduceEqDiff, Int.reduceAdd, Int.reduceSub, Int.reduceLE, Int.reduceLT, Int.reduceEq, Int.reduceNe, Int.reduceToNat, Int.reduceNeg, reduceIte, reduceCtorEq, eq_true c1, eq_true z1, i1, e0]
    rw [fork_bool]
    refine ⟨fun c2 => ?_, fun c2 => ?_⟩
    · replace hm := ifp hm c2
      have e0 := H.getP 0 rfl
      simp (maxSteps := 4000000) -implicitDefEqProofs (disch := omega) only [push_cast, Nat.reduceAdd, Nat.reduceLeDiff, Nat.reduceMul, Nat.reduceSub, Nat.reduceLT, Nat.reduceEqDiff, Int.reduceAdd, Int.reduceSub, Int.reduceLE, Int.reduceLT, Int.reduceEq, Int.reduceNe, Int.reduceToNat, Int.reduceNeg, reduceIte, reduceCtorEq, eq_true c1, eq_true z1, i1, c2, e0]
      exact retQ_back (.inl rfl) true _ rfl (Shift.refl _ _) H.sub hm
    · replace hm := ifn hm (by rw [c2]; exact Bool.false_ne_true)
      obtain ⟨w1, hm⟩ := hm
      have e0 := H.getP 0 rfl
      simp (maxSteps := 4000000) -implicitDefEqProofs (disch := omega) only [push_cast, Nat.reduceAdd, Nat.reduceLeDiff, Nat.reduceMul, Nat.reduceSub, Nat.reduceLT, Nat.reduceEqDiff, Int.reduceAdd, Int.reduceSub, Int.reduceLE, Int.reduceLT, Int.reduceEq, Int.reduceNe, Int.reduceToNat, Int.reduceNeg, reduceIte, reduceCtorEq, eq_true c1, eq_true z1, i1, c2, wrap_i64 _ w1, e0]
      replace H := H.perm [0] (by decide)
      exact ⟨⟨a1 + 1, h2⟩, hm.2, ⟨hm.1, H⟩, Retell.weak (by simp [Weak, push_cast]) (Hp.sub.refl _)⟩
  · replace hm := ifn hm c1
    have e0 := H.getP 0 rfl
    simp (maxSteps := 4000000) -implicitDefEqProofs (disch := omega) only [push_cast, Nat.reduceAdd, Nat.reduceLeDiff, Nat.reduceMul, Nat.reduceSub, Nat.reduceLT, Nat.reduceEqDiff, Int.reduceAdd, Int.reduceSub, Int.reduceLE, Int.reduceLT, Int.reduceEq, Int.reduceNe, Int.reduceToNat, Int.reduceNeg, reduceIte, reduceCtorEq, eq_false c1, e0]
    exact retQ_back (.inl rfl) (decide (60 < (a0_.Changes.length : Int))) _ rfl (Shift.refl _ _) H.sub hm
end Go.Proofs.YtlnjajfagildnaaDoor
