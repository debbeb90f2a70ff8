/- Functions of the program: code, what is asked for their answers, the walk (printed by pr.py). -/
import Derived.Test.YtlnjajfagildnaaDoorWA0
namespace Go.Proofs.YtlnjajfagildnaaDoor
open Go Go.Proofs.YtlnjajfagildnaaDoor.AM
set_option maxRecDepth 100000
set_option linter.unusedSimpArgs false
set_option linter.unusedVariables false
set_option maxHeartbeats 4000000
/-! slices.Equal[[]string,string] -/
abbrev n_slices_Equal_string_string : Nat := 19
noncomputable def code_slices_Equal_string_string : Code := match Tryd.f19.body with | some c => c | none => .skip
def ann_slices_Equal_string_string : Nat → Ann
  | 6 => { pure := [], plan := (.op 0 (.op 1 (.op 2 (.op 3 (.op 4 (.op 5 (.op 6 (.op 7 (.op 8 .done))))))))), ghost := false, post := false }
  | _ => {}
noncomputable def ac_slices_Equal_string_string : AC :=
  (.seq (.reg [⟨some 4, (Op.assign (Operand.const (Value.bool false))), none, false⟩]) (.seq (.seq (.reg [⟨some 6, (Op.move (Operand.tmp 0)), none, false⟩, ⟨some 7, (Op.call (Call.mk (Callee.builtin Builtin.len) #[(Operand.tmp 6)] #[38])), none, false⟩, ⟨some 8, (Op.move (Operand.tmp 1)), none, false⟩, ⟨some 9, (Op.call (Call.mk (Callee.builtin Builtin.len) #[(Operand.tmp 8)] #[38])), none, false⟩, ⟨some 10, (Op.binOp BinOp.neq 3 (Operand.tmp 7) (Operand.tmp 9) 3), none, false⟩]) (.cond (Operand.tmp 10) (.seq (.reg [⟨some 4, (Op.assign (Operand.const (Value.bool false))), none, false⟩]) .ret) .skip)) (.seq (.seq (.reg [⟨some 11, (Op.move (Operand.tmp 0)), none, false⟩, ⟨some 12, (Op.call (Call.mk (Callee.builtin Builtin.len) #[(Operand.tmp 11)] #[38])), none, false⟩, ⟨some 13, (Op.move (Operand.const (Value.int IntKind.i64 0))), none, false⟩]) (.block 0 (.loop (.seq (.reg [⟨some 14, (Op.binOp BinOp.lss 3 (Operand.tmp 13) (Operand.tmp 12) 3), none, false⟩]) (.seq (.cond (Operand.tmp 14) .skip (.exit 0)) (.seq (.block 1 (.seq (.reg [⟨some 15, (Op.move (Operand.tmp 13)), none, false⟩, ⟨some 5, (Op.assign (Operand.tmp 15)), none, false⟩]) (.seq (.draw [⟨some 16, (Op.move (Operand.tmp 0)), none, false⟩, ⟨some 17, (Op.move (Operand.tmp 5)), none, false⟩, ⟨some 18, (Op.indexAddr 38 (Operand.tmp 16) (Operand.tmp 17)), none, false⟩, ⟨some 19, (Op.load 9 (Operand.tmp 18)), none, false⟩, ⟨some 20, (Op.move (Operand.tmp 1)), none, false⟩, ⟨some 21, (Op.move (Operand.tmp 5)), none, false⟩, ⟨some 22, (Op.indexAddr 38 (Operand.tmp 20) (Operand.tmp 21)), none, false⟩, ⟨some 23, (Op.load 9 (Operand.tmp 22)), none, false⟩, ⟨some 24, (Op.binOp BinOp.neq 9 (Operand.tmp 19) (Operand.tmp 23) 9), none, false⟩] (.op 0 (.op 1 (.op 2 (.op 3 (.op 4 (.op 5 (.op 6 (.op 7 (.op 8 .done)))))))))) (.cond (Operand.tmp 24) (.seq (.reg [⟨some 4, (Op.assign (Operand.const (Value.bool false))), none, false⟩]) .ret) .skip)))) (.reg [⟨some 25, (Op.binOp BinOp.add 3 (Operand.tmp 13) (Operand.const (Value.int IntKind.i64 1)) 3), none, false⟩, ⟨some 13, (Op.move (Operand.tmp 25)), none, false⟩]))))))) (.seq (.reg [⟨some 4, (Op.assign (Operand.const (Value.bool true))), none, false⟩]) .ret))))
theorem body_slices_Equal_string_string : Tryd.f19.body = some code_slices_Equal_string_string := by kernel_rfl
theorem slim_slices_Equal_string_string : slim ann_slices_Equal_string_string code_slices_Equal_string_string = some ac_slices_Equal_string_string := by kernel_rfl
theorem name_slices_Equal_string_string : (Tryd.f19.name == "runtime.NumGoroutine") = false := by kernel_rfl
theorem enter_slices_Equal_string_string {args : List AV} {h : Hp} {Q : AE → Hp → Prop} (H : awp Tryd.prog tab ac_slices_Equal_string_string (retQ tab [(ResultVar.tmp 4)] Q) ⟨args ++ List.replicate (26 - args.length) .any, h⟩) : ACalls Tryd.prog 19 args h Q :=
  acalls_of tab_ok mixed Tryd.func19 body_slices_Equal_string_string name_slices_Equal_string_string slim_slices_Equal_string_string rfl Tryd.ntmps19 H
/-- slices.Equal[[]string,string] -/
def slices_Equal_string_string.w (a0_ : List ByteArray) (a1_ : List ByteArray) (Q : Bool → Prop) : Prop :=
  if (a0_.length : Int) = (a1_.length : Int) then
    wloop (σ := Int) (fun a1 next1 =>
      if a1 < (a0_.length : Int) then
        (0 ≤ a1) ∧
        ∃ v1 : ByteArray, a0_[a1.toNat]? = some v1 ∧
        ∃ v2 : ByteArray, a1_[a1.toNat]? = some v2 ∧
        if v1 = v2 then
          (I64 (a1 + 1)) ∧
          next1 (a1 + 1)
        else
          Q false
      else
        Q true) 0
  else
    Q false
theorem slices_Equal_string_string.ok {a0_ : List ByteArray} {a1_ : List ByteArray} {Q : Bool → Prop} (hm : slices_Equal_string_string.w a0_ a1_ Q) (h0 : Hp) : ACalls Tryd.prog n_slices_Equal_string_string [(.isl 1 (a0_.map AM.encStr)), (.isl 1 (a1_.map AM.encStr))] h0 (Back h0 (fun r => (abool r)) Q) := by
  refine enter_slices_Equal_string_string ?_
  unfold slices_Equal_string_string.w at hm
  have H := AM.Own.nil h0
  simp (maxSteps := 4000000) -implicitDefEqProofs (disch := omega) only [push_cast, Nat.reduceAdd, Nat.reduceLeDiff, Nat.reduceMul, Nat.reduceSub, Nat.reduceLT, Nat.reduceEqDiff, Int.reduceAdd, Int.reduceSub, Int.reduceLE, Int.reduceLT, Int.reduceEq, Int.reduceNe, Int.reduceToNat, Int.reduceNeg, reduceIte, reduceCtorEq, ac_slices_Equal_string_string]
  rw [fork_cond]
  refine ⟨fun c1 => ?_, fun c1 => ?_⟩
  · replace hm := ifn hm c1
    simp (maxSteps := 4000000) -implicitDefEqProofs (disch := omega) only [push_cast, Nat.reduceAdd, Nat.reduceLeDiff, Nat.reduceMul, Nat.reduceSub, Nat.reduceLT, Nat.reduceEqDiff, Int.reduceAdd, Int.reduceSub, Int.reduceLE, Int.reduceLT, Int.reduceEq, Int.reduceNe, Int.reduceToNat, Int.reduceNeg, reduceIte, reduceCtorEq, eq_false c1]
    exact retQ_back (.inl rfl) false _ rfl (Shift.refl _ _) H.sub hm
  · replace c1 := Decidable.not_not.1 c1
    replace hm := ifp hm c1
    simp (maxSteps := 4000000) -implicitDefEqProofs (disch := omega) only [push_cast, Nat.reduceAdd, Nat.reduceLeDiff, Nat.reduceMul, Nat.reduceSub, Nat.reduceLT, Nat.reduceEqDiff, Int.reduceAdd, Int.reduceSub, Int.reduceLE, Int.reduceLT, Int.reduceEq, Int.reduceNe, Int.reduceToNat, Int.reduceNeg, reduceIte, reduceCtorEq, eq_true c1]
    obtain ⟨inv1, mu1, hi1, hs1⟩ := hm
    replace H := H.perm [] (by decide)
    refine awp_loop (σ := Int × Hp) (fun ⟨a1, h1⟩ => ⟨((((List.replicate 26 AV.any).set 0 (.isl 1 (a0_.map AM.encStr))).set 1 (.isl 1 (a1_.map AM.encStr))).set 12 (aint (a0_.length : Int))).set 13 (aint a1), h1⟩) (fun ⟨a1, h1⟩ => inv1 a1 ∧ AM.Own h0 h1 []) (fun ⟨a1, h1⟩ => mu1 a1) ⟨0, h0⟩ (Retell.weak (by simp [Weak, push_cast]) (Hp.sub.refl _)) ⟨hi1, H⟩ ?_
    rintro ⟨a1, h1⟩ ⟨hi1, H⟩
    have hm := hs1 _ hi1
    dsimp only at hm H ⊢
    simp (maxSteps := 4000000) -implicitDefEqProofs (disch := omega) only [push_cast, Nat.reduceAdd, Nat.reduceLeDiff, Nat.reduceMul, Nat.reduceSub, Nat.reduceLT, Nat.reduceEqDiff, Int.reduceAdd, Int.reduceSub, Int.reduceLE, Int.reduceLT, Int.reduceEq, Int.reduceNe, Int.reduceToNat, Int.reduceNeg, reduceIte, reduceCtorEq, eq_true c1]
    rw [fork_cond]
    refine ⟨fun c2 => ?_, fun c2 => ?_⟩
    · replace hm := ifp hm c2
      obtain ⟨z1, hm⟩ := hm
      obtain ⟨v1, i1, hm⟩ := hm
      obtain ⟨v2, i2, hm⟩ := hm
      simp (maxSteps := 4000000) -implicitDefEqProofs (disch := omega) only [push_cast, Nat.reduceAdd, Nat.reduceLeDiff, Nat.reduceMul, Nat.reduceSub, Nat.reduceLT, Nat.reduceEqDiff, Int.reduceAdd, Int.reduceSub, Int.reduceLE, Int.reduceLT, Int.reduceEq, Int.reduceNe, Int.reduceToNat, Int.reduceNeg, reduceIte, reduceCtorEq, eq_true c1, eq_true c2, eq_true z1, i1, i2]
      rw [fork_cond]
      refine ⟨fun c3 => ?_, fun c3 => ?_⟩
      · replace hm := ifn hm c3
        simp (maxSteps := 4000000) -implicitDefEqProofs (disch := omega) only [push_cast, Nat.reduceAdd, Nat.reduceLeDiff, Nat.reduceMul, Nat.reduceSub, Nat.reduceLT, Nat.reduceEqDiff, Int.reduceAdd, Int.reduceSub, Int.reduceLE, Int.reduceLT, Int.reduceEq, Int.reduceNe, Int.reduceToNat, Int.reduceNeg, reduceIte, reduceCtorEq, eq_true c1, eq_true c2, eq_true z1, i1, i2, eq_false c3]
        exact retQ_back (.inl rfl) false _ rfl (Shift.refl _ _) H.sub hm
      · replace c3 := Decidable.not_not.1 c3
        replace hm := ifp hm c3
        obtain ⟨w1, hm⟩ := hm
        simp (maxSteps := 4000000) -implicitDefEqProofs (disch := omega) only [push_cast, Nat.reduceAdd, Nat.reduceLeDiff, Nat.reduceMul, Nat.reduceSub, Nat.reduceLT, Nat.reduceEqDiff, Int.reduceAdd, Int.reduceSub, Int.reduceLE, Int.reduceLT, Int.reduceEq, Int.reduceNe, Int.reduceToNat, Int.reduceNeg, reduceIte, reduceCtorEq, eq_true c1, eq_true c2, eq_true z1, i1, i2, eq_true c3, wrap_i64 _ w1]
        replace H := H.perm [] (by decide)
        exact ⟨⟨a1 + 1, h1⟩, hm.2, ⟨hm.1, H⟩, Retell.weak (by simp [Weak, push_cast]) (Hp.sub.refl _)⟩
    · replace hm := ifn hm c2
      simp (maxSteps := 4000000) -implicitDefEqProofs (disch := omega) only [push_cast, Nat.reduceAdd, Nat.reduceLeDiff, Nat.reduceMul, Nat.reduceSub, Nat.reduceLT, Nat.reduceEqDiff, Int.reduceAdd, Int.reduceSub, Int.reduceLE, Int.reduceLT, Int.reduceEq, Int.reduceNe, Int.reduceToNat, Int.reduceNeg, reduceIte, reduceCtorEq, eq_true c1, eq_false c2]
      exact retQ_back (.inl rfl) true _ rfl (Shift.refl _ _) H.sub hm
/-! slices.Clone[[]string,string] -/
abbrev n_slices_Clone_string_string : Nat := 20
noncomputable def code_slices_Clone_string_string : Code := match Tryd.f20.body with | some c => c | none => .skip
def ann_slices_Clone_string_string : Nat → Ann
  | _ => {}
noncomputable def ac_slices_Clone_string_string : AC :=
  (.seq (.reg [⟨some 2, (Op.assign (Operand.const (Value.slice none 0 0))), none, false⟩]) (.seq (.seq (.reg [⟨some 3, (Op.move (Operand.tmp 0)), none, false⟩, ⟨some 4, (Op.binOp BinOp.eql 38 (Operand.tmp 3) (Operand.const (Value.slice none 0 0)) 38), none, false⟩]) (.cond (Operand.tmp 4) (.seq (.reg [⟨some 2, (Op.assign (Operand.const (Value.slice none 0 0))), none, false⟩]) .ret) .skip)) (.seq (.reg [⟨some 5, (Op.buildSlice 38 0 #[]), none, false⟩, ⟨some 6, (Op.move (Operand.tmp 0)), none, false⟩, ⟨some 7, (Op.call (Call.mk (Callee.builtin Builtin.append) #[(Operand.tmp 5), (Operand.tmp 6)] #[38, 38])), none, false⟩, ⟨some 2, (Op.assign (Operand.tmp 7)), none, false⟩]) .ret)))
theorem body_slices_Clone_string_string : Tryd.f20.body = some code_slices_Clone_string_string := by kernel_rfl
theorem slim_slices_Clone_string_string : slim ann_slices_Clone_string_string code_slices_Clone_string_string = some ac_slices_Clone_string_string := by kernel_rfl
theorem name_slices_Clone_string_string : (Tryd.f20.name == "runtime.NumGoroutine") = false := by kernel_rfl
theorem enter_slices_Clone_string_string {args : List AV} {h : Hp} {Q : AE → Hp → Prop} (H : awp Tryd.prog tab ac_slices_Clone_string_string (retQ tab [(ResultVar.tmp 2)] Q) ⟨args ++ List.replicate (8 - args.length) .any, h⟩) : ACalls Tryd.prog 20 args h Q :=
  acalls_of tab_ok mixed Tryd.func20 body_slices_Clone_string_string name_slices_Clone_string_string slim_slices_Clone_string_string rfl Tryd.ntmps20 H
/-- slices.Clone[[]string,string] -/
def slices_Clone_string_string.w (a0_ : List ByteArray) (Q : (List ByteArray) → Prop) : Prop :=
  (a0_ = [] →
    Q ([] : List ByteArray)) ∧ (
    ((([] : List ByteArray).length + a0_.length) * 16 ≤ 140737488355328) ∧
    Q a0_)
theorem slices_Clone_string_string.ok {a0_ : List ByteArray} {Q : (List ByteArray) → Prop} (hm : slices_Clone_string_string.w a0_ Q) (h0 : Hp) : ACalls Tryd.prog n_slices_Clone_string_string [(.isl 1 (a0_.map AM.encStr))] h0 (Back h0 (fun r => (.isl 1 (r.map AM.encStr))) Q) := by
  refine enter_slices_Clone_string_string ?_
  unfold slices_Clone_string_string.w at hm
  have H := AM.Own.nil h0
  simp (maxSteps := 4000000) -implicitDefEqProofs (disch := omega) only [push_cast, Nat.reduceAdd, Nat.reduceLeDiff, Nat.reduceMul, Nat.reduceSub, Nat.reduceLT, Nat.reduceEqDiff, Int.reduceAdd, Int.reduceSub, Int.reduceLE, Int.reduceLT, Int.reduceEq, Int.reduceNe, Int.reduceToNat, Int.reduceNeg, reduceIte, reduceCtorEq, ac_slices_Clone_string_string]
  refine nilK_eql_isl _ _ ⟨fun c => ?_, ?_⟩
  · replace hm := hm.1 (by simpa using c)
    simp (maxSteps := 4000000) -implicitDefEqProofs (disch := omega) only [push_cast, Nat.reduceAdd, Nat.reduceLeDiff, Nat.reduceMul, Nat.reduceSub, Nat.reduceLT, Nat.reduceEqDiff, Int.reduceAdd, Int.reduceSub, Int.reduceLE, Int.reduceLT, Int.reduceEq, Int.reduceNe, Int.reduceToNat, Int.reduceNeg, reduceIte, reduceCtorEq]
    exact retQ_back (.inl rfl) ([] : List ByteArray) _ rfl (Shift.nil _ 1) H.sub hm
  · replace hm := hm.2
    simp (maxSteps := 4000000) -implicitDefEqProofs (disch := omega) only [push_cast, Nat.reduceAdd, Nat.reduceLeDiff, Nat.reduceMul, Nat.reduceSub, Nat.reduceLT, Nat.reduceEqDiff, Int.reduceAdd, Int.reduceSub, Int.reduceLE, Int.reduceLT, Int.reduceEq, Int.reduceNe, Int.reduceToNat, Int.reduceNeg, reduceIte, reduceCtorEq]
    refine H.newL (E := AM.encStr) ([] : List ByteArray) rfl rfl (fun b1 h1 H => ?_)
    simp (maxSteps := 4000000) -implicitDefEqProofs (disch := omega) only [push_cast, Nat.reduceAdd, Nat.reduceLeDiff, Nat.reduceMul, Nat.reduceSub, Nat.reduceLT, Nat.reduceEqDiff, Int.reduceAdd, Int.reduceSub, Int.reduceLE, Int.reduceLT, Int.reduceEq, Int.reduceNe, Int.reduceToNat, Int.reduceNeg, reduceIte, reduceCtorEq]
    obtain ⟨w1, hm⟩ := hm
    refine H.appL (E := AM.encStr) 0 a0_ rfl rfl rfl (by decide) (by decide) w1 (fun x1 h2 H => ?_)
    replace H : AM.Own h0 h2 [⟨x1, false, 1, a0_.map AM.encStr, some (9, 0)⟩] := H
    simp (maxSteps := 4000000) -implicitDefEqProofs (disch := omega) only [push_cast, Nat.reduceAdd, Nat.reduceLeDiff, Nat.reduceMul, Nat.reduceSub, Nat.reduceLT, Nat.reduceEqDiff, Int.reduceAdd, Int.reduceSub, Int.reduceLE, Int.reduceLT, Int.reduceEq, Int.reduceNe, Int.reduceToNat, Int.reduceNeg, reduceIte, reduceCtorEq]
    obtain ⟨h3, s1, H⟩ := H.freeze 0 rfl
    exact retQ_back (.inl rfl) a0_ _ rfl s1 H.sub hm
/-! stylus/stylusref35.Own -/
abbrev n_stylusref35_Own : Nat := 8
noncomputable def code_stylusref35_Own : Code := match Tryd.f8.body with | some c => c | none => .skip
def ann_stylusref35_Own : Nat → Ann
  | 5 => { pure := [], plan := .done, ghost := false, post := true }
  | _ => {}
noncomputable def ac_stylusref35_Own : AC :=
  (.seq (.reg [⟨some 2, (Op.assign (Operand.const (Value.slice none 0 0))), none, false⟩]) (.seq (.reg [⟨some 3, (Op.assign (Operand.const (Value.slice none 0 0))), none, false⟩]) (.seq (.seq (.reg [⟨some 4, (Op.assign (Operand.const (Value.int IntKind.i64 0))), none, false⟩]) (.block 0 (.loop (.seq (.seq (.reg [⟨some 5, (Op.move (Operand.tmp 4)), none, false⟩, ⟨some 6, (Op.move (Operand.tmp 0)), none, false⟩, ⟨some 7, (Op.call (Call.mk (Callee.builtin Builtin.len) #[(Operand.tmp 6)] #[22])), none, false⟩, ⟨some 8, (Op.binOp BinOp.lss 3 (Operand.tmp 5) (Operand.tmp 7) 3), none, false⟩]) (.cond (Operand.tmp 8) .skip (.exit 0))) (.seq (.block 1 (.seq (.reg [⟨some 11, (Op.move (Operand.tmp 3)), none, false⟩, ⟨some 12, (Op.buildSlice 38 0 #[]), none, false⟩, ⟨some 13, (Op.move (Operand.tmp 0)), none, false⟩, ⟨some 14, (Op.move (Operand.tmp 4)), none, false⟩, ⟨some 15, (Op.indexAddr 22 (Operand.tmp 13) (Operand.tmp 14)), none, false⟩, ⟨some 16, (Op.load 38 (Operand.tmp 15)), none, false⟩, ⟨some 17, (Op.call (Call.mk (Callee.builtin Builtin.append) #[(Operand.tmp 12), (Operand.tmp 16)] #[38, 38])), none, false⟩, ⟨some 18, (Op.buildSlice 22 1 #[(0, (Operand.tmp 17))]), none, false⟩, ⟨some 19, (Op.call (Call.mk (Callee.builtin Builtin.append) #[(Operand.tmp 11), (Operand.tmp 18)] #[22, 22])), none, false⟩, ⟨some 3, (Op.assign (Operand.tmp 19)), none, false⟩]) .ghost)) (.reg [⟨some 9, (Op.move (Operand.tmp 4)), none, false⟩, ⟨some 10, (Op.binOp BinOp.add 3 (Operand.tmp 9) (Operand.const (Value.int IntKind.i64 1)) 3), none, false⟩, ⟨some 4, (Op.assign (Operand.tmp 10)), none, false⟩])))))) (.seq (.reg [⟨some 20, (Op.move (Operand.tmp 3)), none, false⟩, ⟨some 2, (Op.assign (Operand.tmp 20)), none, false⟩]) .ret))))
theorem body_stylusref35_Own : Tryd.f8.body = some code_stylusref35_Own := by kernel_rfl
theorem slim_stylusref35_Own : slim ann_stylusref35_Own code_stylusref35_Own = some ac_stylusref35_Own := by kernel_rfl
theorem name_stylusref35_Own : (Tryd.f8.name == "runtime.NumGoroutine") = false := by kernel_rfl
theorem enter_stylusref35_Own {args : List AV} {h : Hp} {Q : AE → Hp → Prop} (H : awp Tryd.prog tab ac_stylusref35_Own (retQ tab [(ResultVar.tmp 2)] Q) ⟨args ++ List.replicate (21 - args.length) .any, h⟩) : ACalls Tryd.prog 8 args h Q :=
  acalls_of tab_ok mixed Tryd.func8 body_stylusref35_Own name_stylusref35_Own slim_stylusref35_Own rfl Tryd.ntmps8 H
/-- stylus/stylusref35.Own -/
def stylusref35_Own.w (a0_ : List (List ByteArray)) (Q : (List (List ByteArray)) → Prop) : Prop :=
  wloop (σ := (List (List ByteArray)) × Int) (fun ⟨a1, a2⟩ next1 =>
    if a2 < (a0_.length : Int) then
      (0 ≤ a2) ∧
      ∃ v1 : List ByteArray, a0_[a2.toNat]? = some v1 ∧
      ((([] : List ByteArray).length + v1.length) * 16 ≤ 140737488355328) ∧
      ((a1.length + 1) * 24 ≤ 140737488355328) ∧
      (I64 (a2 + 1)) ∧
      next1 (a1 ++ ([v1] : List (List ByteArray)), a2 + 1)
    else
      Q a1) (([] : List (List ByteArray)), 0)
theorem stylusref35_Own.ok {a0_ : List (List ByteArray)} {Q : (List (List ByteArray)) → Prop} (hm : stylusref35_Own.w a0_ Q) (h0 : Hp) : ACalls Tryd.prog n_stylusref35_Own [(.isl 1 (a0_.map (encSl 1 AM.encStr)))] h0 (Back h0 (fun r => (.isl 1 (r.map (encSl 1 AM.encStr)))) Q) := by
  refine enter_stylusref35_Own ?_
  unfold stylusref35_Own.w at hm
  have H := AM.Own.nil h0
  simp (maxSteps := 4000000) -implicitDefEqProofs (disch := omega) only [push_cast, Nat.reduceAdd, Nat.reduceLeDiff, Nat.reduceMul, Nat.reduceSub, Nat.reduceLT, Nat.reduceEqDiff, Int.reduceAdd, Int.reduceSub, Int.reduceLE, Int.reduceLT, Int.reduceEq, Int.reduceNe, Int.reduceToNat, Int.reduceNeg, reduceIte, reduceCtorEq, ac_stylusref35_Own]
  obtain ⟨inv1, mu1, hi1, hs1⟩ := hm
  replace H := H.addNil 1 (some (38, 0))
  replace H := H.perm [0] (by decide)
  refine awp_loop (σ := ((List (List ByteArray)) × Int) × AV × Hp) (fun ⟨⟨a1, a2⟩, x1, h1⟩ => ⟨(((List.replicate 21 AV.any).set 0 (.isl 1 (a0_.map (encSl 1 AM.encStr)))).set 3 x1).set 4 (aint a2), h1⟩) (fun ⟨⟨a1, a2⟩, x1, h1⟩ => inv1 (a1, a2) ∧ AM.Own h0 h1 [⟨x1, false, 1, a1.map (encSl 1 AM.encStr), some (38, 0)⟩]) (fun ⟨⟨a1, a2⟩, x1, h1⟩ => mu1 (a1, a2)) ⟨(([] : List (List ByteArray)), 0), anil, h0⟩ (Retell.weak (by simp [Weak, push_cast]) (Hp.sub.refl _)) ⟨hi1, H⟩ ?_
  rintro ⟨⟨a1, a2⟩, x1, h1⟩ ⟨hi1, H⟩
  have hm := hs1 _ hi1
  dsimp only at hm H ⊢
  simp (maxSteps := 4000000) -implicitDefEqProofs (disch := omega) only [push_cast, Nat.reduceAdd, Nat.reduceLeDiff, Nat.reduceMul, Nat.reduceSub, Nat.reduceLT, Nat.reduceEqDiff, Int.reduceAdd, Int.reduceSub, Int.reduceLE, Int.reduceLT, Int.reduceEq, Int.reduceNe, Int.reduceToNat, Int.reduceNeg, reduceIte, reduceCtorEq]
  rw [fork_cond]
  refine ⟨fun c1 => ?_, fun c1 => ?_⟩
  · replace hm := ifp hm c1
    simp (maxSteps := 4000000) -implicitDefEqProofs (disch := omega) only [push_cast, Nat.reduceAdd, Nat.reduceLeDiff, Nat.reduceMul, Nat.reduceSub, Nat.reduceLT, Nat.reduceEqDiff, Int.reduceAdd, Int.reduceSub, Int.reduceLE, Int.reduceLT, Int.reduceEq, Int.reduceNe, Int.reduceToNat, Int.reduceNeg, reduceIte, reduceCtorEq, eq_true c1]
    refine H.newL (E := AM.encStr) ([] : List ByteArray) rfl rfl (fun b1 h2 H => ?_)
    obtain ⟨z1, hm⟩ := hm
    obtain ⟨v1, i1, hm⟩ := hm
    simp (maxSteps := 4000000) -implicitDefEqProofs (disch := omega) only [push_cast, Nat.reduceAdd, Nat.reduceLeDiff, Nat.reduceMul, Nat.reduceSub, Nat.reduceLT, Nat.reduceEqDiff, Int.reduceAdd, Int.reduceSub, Int.reduceLE, Int.reduceLT, Int.reduceEq, Int.reduceNe, Int.reduceToNat, Int.reduceNeg, reduceIte, reduceCtorEq, eq_true c1, eq_true z1, i1]
    obtain ⟨w1, hm⟩ := hm
    refine H.appL (E := AM.encStr) 1 v1 rfl rfl rfl (by decide) (by decide) w1 (fun x2 h3 H => ?_)
    replace H : AM.Own h0 h3 [⟨x1, false, 1, a1.map (encSl 1 AM.encStr), some (38, 0)⟩, ⟨x2, false, 1, v1.map AM.encStr, some (9, 0)⟩] := H
    simp (maxSteps := 4000000) -implicitDefEqProofs (disch := omega) only [push_cast, Nat.reduceAdd, Nat.reduceLeDiff, Nat.reduceMul, Nat.reduceSub, Nat.reduceLT, Nat.reduceEqDiff, Int.reduceAdd, Int.reduceSub, Int.reduceLE, Int.reduceLT, Int.reduceEq, Int.reduceNe, Int.reduceToNat, Int.reduceNeg, reduceIte, reduceCtorEq, eq_true c1, eq_true z1, i1, (H.ok 1 rfl).1, (H.ok 1 rfl).2]
    refine H.newS (n := 1) (by rfl) (fun b2 h4 H => ?_)
    simp (maxSteps := 4000000) -implicitDefEqProofs (disch := omega) only [push_cast, Nat.reduceAdd, Nat.reduceLeDiff, Nat.reduceMul, Nat.reduceSub, Nat.reduceLT, Nat.reduceEqDiff, Int.reduceAdd, Int.reduceSub, Int.reduceLE, Int.reduceLT, Int.reduceEq, Int.reduceNe, Int.reduceToNat, Int.reduceNeg, reduceIte, reduceCtorEq, eq_true c1, eq_true z1, i1, H.src (e := 38) 2 rfl]
    obtain ⟨w2, hm⟩ := hm
    refine H.app 0 _ rfl rfl (by decide) (by decide) (by simpa using w2) (fun x3 h5 H => ?_)
    simp (maxSteps := 4000000) -implicitDefEqProofs (disch := omega) only [push_cast, Nat.reduceAdd, Nat.reduceLeDiff, Nat.reduceMul, Nat.reduceSub, Nat.reduceLT, Nat.reduceEqDiff, Int.reduceAdd, Int.reduceSub, Int.reduceLE, Int.reduceLT, Int.reduceEq, Int.reduceNe, Int.reduceToNat, Int.reduceNeg, reduceIte, reduceCtorEq, eq_true c1, eq_true z1, i1]
    obtain ⟨h6, q1, H⟩ := H.cellLast 0 1 (by decide) 0 rfl rfl rfl
    replace H := H.typedLast (E := (encSl 1 AM.encStr)) 0 v1 rfl rfl
    skip
    refine awp_ghost' _ (Hs.retell q1 _) ?_
    obtain ⟨w3, hm⟩ := hm
    simp (maxSteps := 4000000) -implicitDefEqProofs (disch := omega) only [push_cast, Nat.reduceAdd, Nat.reduceLeDiff, Nat.reduceMul, Nat.reduceSub, Nat.reduceLT, Nat.reduceEqDiff, Int.reduceAdd, Int.reduceSub, Int.reduceLE, Int.reduceLT, Int.reduceEq, Int.reduceNe, Int.reduceToNat, Int.reduceNeg, reduceIte, reduceCtorEq, eq_true c1, eq_true z1, i1, wrap_i64 _ w3]
    replace H := H.perm [0] (by decide)
    exact ⟨⟨(a1 ++ ([v1] : List (List ByteArray)), a2 + 1), x3, h6⟩, hm.2, ⟨hm.1, H⟩, Retell.weak (by simp [Weak, push_cast]) (Hp.sub.refl _)⟩
  · replace hm := ifn hm c1
    simp (maxSteps := 4000000) -implicitDefEqProofs (disch := omega) only [push_cast, Nat.reduceAdd, Nat.reduceLeDiff, Nat.reduceMul, Nat.reduceSub, Nat.reduceLT, Nat.reduceEqDiff, Int.reduceAdd, Int.reduceSub, Int.reduceLE, Int.reduceLT, Int.reduceEq, Int.reduceNe, Int.reduceToNat, Int.reduceNeg, reduceIte, reduceCtorEq, eq_false c1]
    obtain ⟨h7, s1, H⟩ := H.freeze 0 rfl
    exact retQ_back (.inl rfl) a1 _ rfl s1 H.sub hm
/-! stylus/stylusref35.Of -/
abbrev n_stylusref35_Of : Nat := 15
noncomputable def code_stylusref35_Of : Code := match Tryd.f15.body with | some c => c | none => .skip
def ann_stylusref35_Of : Nat → Ann
  | 5 => { pure := [13], plan := (.op 0 (.op 1 (.op 2 (.op 3 (.op 4 (.op 5 (.op 6 (.op 7 (.op 8 (.op 9 (.op 10 (.op 11 (.op 12 (.op 13 (.op 14 .done))))))))))))))), ghost := false, post := false }
  | 6 => { pure := [], plan := (.op 0 (.op 1 (.op 2 (.op 3 (.op 4 (.op 5 (.op 6 (.op 7 (.op 8 (.op 9 (.op 10 (.op 11 (.op 12 .done))))))))))))), ghost := false, post := false }
  | _ => {}
noncomputable def ac_stylusref35_Of_c2 : AC :=
  (.seq (.seq (.draw [⟨some 16, (Op.move (Operand.tmp 6)), none, false⟩, ⟨some 17, (Op.move (Operand.tmp 0)), none, false⟩, ⟨some 18, (Op.call (Call.mk (Callee.builtin Builtin.len) #[(Operand.tmp 17)] #[22])), none, false⟩, ⟨some 19, (Op.binOp BinOp.lss 3 (Operand.tmp 16) (Operand.tmp 18) 3), none, false⟩, ⟨some 20, (Op.move (Operand.tmp 19)), none, false⟩, ⟨some 21, (Op.move (Operand.tmp 0)), (some (some 20, true)), false⟩, ⟨some 22, (Op.move (Operand.tmp 6)), (some (some 20, true)), false⟩, ⟨some 23, (Op.indexAddr 22 (Operand.tmp 21) (Operand.tmp 22)), (some (some 20, true)), false⟩, ⟨some 24, (Op.load 38 (Operand.tmp 23)), (some (some 20, true)), false⟩, ⟨some 25, (Op.move (Operand.tmp 1)), (some (some 20, true)), false⟩, ⟨some 26, (Op.move (Operand.tmp 6)), (some (some 20, true)), false⟩, ⟨some 27, (Op.indexAddr 22 (Operand.tmp 25) (Operand.tmp 26)), (some (some 20, true)), false⟩, ⟨some 28, (Op.load 38 (Operand.tmp 27)), (some (some 20, true)), false⟩, ⟨some 29, (Op.call (Call.mk (Callee.value (Operand.func 17)) #[(Operand.tmp 24), (Operand.tmp 28)] #[38, 38])), (some (some 20, true)), true⟩, ⟨some 30, (Op.pick (Operand.tmp 20) (Operand.tmp 29) (Operand.const (Value.bool false))), none, false⟩] (.op 0 (.op 1 (.op 2 (.op 3 (.op 4 (.op 5 (.op 6 (.op 7 (.op 8 (.op 9 (.op 10 (.op 11 (.op 12 (.op 13 (.op 14 .done)))))))))))))))) (.cond (Operand.tmp 30) (.exit 1) .skip)) (.draw [⟨some 31, (Op.fieldAddr 25 (Operand.tmp 5) 1), none, false⟩, ⟨some 32, (Op.load 23 (Operand.tmp 31)), none, false⟩, ⟨some 33, (Op.move (Operand.tmp 6)), none, false⟩, ⟨some 34, (Op.binOp BinOp.add 3 (Operand.tmp 33) (Operand.const (Value.int IntKind.i64 1)) 3), none, false⟩, ⟨some 35, (Op.move (Operand.tmp 1)), none, false⟩, ⟨some 36, (Op.move (Operand.tmp 6)), none, false⟩, ⟨some 37, (Op.indexAddr 22 (Operand.tmp 35) (Operand.tmp 36)), none, false⟩, ⟨some 38, (Op.load 38 (Operand.tmp 37)), none, false⟩, ⟨some 39, (Op.build 40 #[(0, (Operand.tmp 34)), (1, (Operand.tmp 38))]), none, false⟩, ⟨some 40, (Op.buildSlice 23 1 #[(0, (Operand.tmp 39))]), none, false⟩, ⟨some 41, (Op.call (Call.mk (Callee.builtin Builtin.append) #[(Operand.tmp 32), (Operand.tmp 40)] #[23, 23])), none, false⟩, ⟨some 42, (Op.fieldAddr 25 (Operand.tmp 5) 1), none, false⟩, ⟨none, (Op.store 23 (Operand.tmp 42) (Operand.tmp 41)), none, false⟩] (.op 0 (.op 1 (.op 2 (.op 3 (.op 4 (.op 5 (.op 6 (.op 7 (.op 8 (.op 9 (.op 10 (.op 11 (.op 12 .done)))))))))))))))
noncomputable def ac_stylusref35_Of_c1 : AC :=
  (.seq (.block 1 ac_stylusref35_Of_c2) (.reg [⟨some 14, (Op.move (Operand.tmp 6)), none, false⟩, ⟨some 15, (Op.binOp BinOp.add 3 (Operand.tmp 14) (Operand.const (Value.int IntKind.i64 1)) 3), none, false⟩, ⟨some 6, (Op.assign (Operand.tmp 15)), none, false⟩]))
noncomputable def ac_stylusref35_Of : AC :=
  (.seq (.reg [⟨some 4, (Op.alloc 25), none, false⟩]) (.seq (.reg [⟨some 7, (Op.move (Operand.tmp 1)), none, false⟩, ⟨some 8, (Op.call (Call.mk (Callee.builtin Builtin.len) #[(Operand.tmp 7)] #[22])), none, false⟩, ⟨some 9, (Op.build 25 #[(0, (Operand.tmp 8))]), none, false⟩, ⟨some 5, (Op.alloc 25), none, false⟩, ⟨none, (Op.store 25 (Operand.tmp 5) (Operand.tmp 9)), none, false⟩]) (.seq (.seq (.reg [⟨some 6, (Op.assign (Operand.const (Value.int IntKind.i64 0))), none, false⟩]) (.block 0 (.loop (.seq (.seq (.reg [⟨some 10, (Op.move (Operand.tmp 6)), none, false⟩, ⟨some 11, (Op.move (Operand.tmp 1)), none, false⟩, ⟨some 12, (Op.call (Call.mk (Callee.builtin Builtin.len) #[(Operand.tmp 11)] #[22])), none, false⟩, ⟨some 13, (Op.binOp BinOp.lss 3 (Operand.tmp 10) (Operand.tmp 12) 3), none, false⟩]) (.cond (Operand.tmp 13) .skip (.exit 0))) ac_stylusref35_Of_c1)))) (.seq (.reg [⟨some 43, (Op.load 25 (Operand.tmp 5)), none, false⟩, ⟨none, (Op.store 25 (Operand.tmp 4) (Operand.tmp 43)), none, false⟩]) .ret))))
theorem body_stylusref35_Of : Tryd.f15.body = some code_stylusref35_Of := by kernel_rfl
theorem slim_stylusref35_Of : slim ann_stylusref35_Of code_stylusref35_Of = some ac_stylusref35_Of := by kernel_rfl
theorem name_stylusref35_Of : (Tryd.f15.name == "runtime.NumGoroutine") = false := by kernel_rfl
theorem enter_stylusref35_Of {args : List AV} {h : Hp} {Q : AE → Hp → Prop} (H : awp Tryd.prog tab ac_stylusref35_Of (retQ tab [(ResultVar.cell 4 25)] Q) ⟨args ++ List.replicate (44 - args.length) .any, h⟩) : ACalls Tryd.prog 15 args h Q :=
  acalls_of tab_ok mixed Tryd.func15 body_stylusref35_Of name_stylusref35_Of slim_stylusref35_Of rfl Tryd.ntmps15 H
/-- stylus/stylusref35.Of -/
def stylusref35_Of.w (a0_ : List (List ByteArray)) (a1_ : List (List ByteArray)) (Q : ApiPatch → Prop) : Prop :=
  wloop (σ := Int × (List ApiChange) × Int × (List ApiChange) × Int) (fun ⟨a1, a2, a3, a4, a5⟩ next1 =>
    if a5 < (a1_.length : Int) then
      wcut (α := (List ApiChange)) (fun k1 =>
        wcut (α := Unit) (fun k2 =>
          if a5 < (a0_.length : Int) then
            (0 ≤ a5) ∧
            ∃ v1 : List ByteArray, a0_[a5.toNat]? = some v1 ∧
            ∃ v2 : List ByteArray, a1_[a5.toNat]? = some v2 ∧
            ∃ r1 : Bool, stylusref35_Lines.w v1 v2 (fun r' => r' = r1) ∧
            if r1 = true then
              k1 a4
            else
              k2 ()
          else
            k2 ()) (fun _ =>
          (I64 (a5 + 1)) ∧
          (0 ≤ a5) ∧
          ∃ v3 : List ByteArray, a1_[a5.toNat]? = some v3 ∧
          ((a4.length + ([(⟨a5 + 1, v3⟩ : ApiChange)] : List ApiChange).length) * 32 ≤ 140737488355328) ∧
          k1 (a4 ++ ([(⟨a5 + 1, v3⟩ : ApiChange)] : List ApiChange)))) (fun a6 =>
        (I64 (a5 + 1)) ∧
        next1 (a1, a2, a3, a6, a5 + 1))
    else
      Q (⟨a3, a4⟩ : ApiPatch)) (0, ([] : List ApiChange), (a1_.length : Int), ([] : List ApiChange), 0)
theorem stylusref35_Of.ok {a0_ : List (List ByteArray)} {a1_ : List (List ByteArray)} {Q : ApiPatch → Prop} (hm : stylusref35_Of.w a0_ a1_ Q) (h0 : Hp) : ACalls Tryd.prog n_stylusref35_Of [(.isl 1 (a0_.map (encSl 1 AM.encStr))), (.isl 1 (a1_.map (encSl 1 AM.encStr)))] h0 (Back h0 (fun r => (.agg (ApiPatch.enc r))) Q) := by
  refine enter_stylusref35_Of ?_
  unfold stylusref35_Of.w at hm
  have H := AM.Own.nil h0
  simp (maxSteps := 4000000) -implicitDefEqProofs (disch := omega) only [push_cast, Nat.reduceAdd, Nat.reduceLeDiff, Nat.reduceMul, Nat.reduceSub, Nat.reduceLT, Nat.reduceEqDiff, Int.reduceAdd, Int.reduceSub, Int.reduceLE, Int.reduceLT, Int.reduceEq, Int.reduceNe, Int.reduceToNat, Int.reduceNeg, reduceIte, reduceCtorEq, ac_stylusref35_Of]
  refine H.newR [(aint 0), anil] rfl (fun b1 h1 H => ?_)
  have e0 := H.getP 0 rfl
  simp (maxSteps := 4000000) -implicitDefEqProofs (disch := omega) only [push_cast, Nat.reduceAdd, Nat.reduceLeDiff, Nat.reduceMul, Nat.reduceSub, Nat.reduceLT, Nat.reduceEqDiff, Int.reduceAdd, Int.reduceSub, Int.reduceLE, Int.reduceLT, Int.reduceEq, Int.reduceNe, Int.reduceToNat, Int.reduceNeg, reduceIte, reduceCtorEq, e0]
  refine H.newR [(aint 0), anil] rfl (fun b2 h2 H => ?_)
  have e0 := H.getP 0 rfl
  have e1 := H.getP 1 rfl
  simp (maxSteps := 4000000) -implicitDefEqProofs (disch := omega) only [push_cast, Nat.reduceAdd, Nat.reduceLeDiff, Nat.reduceMul, Nat.reduceSub, Nat.reduceLT, Nat.reduceEqDiff, Int.reduceAdd, Int.reduceSub, Int.reduceLE, Int.reduceLT, Int.reduceEq, Int.reduceNe, Int.reduceToNat, Int.reduceNeg, reduceIte, reduceCtorEq, e0, e1]
  refine H.stP 1 [(aint (a1_.length : Int)), anil] rfl rfl rfl rfl (Nat.le_of_ble_eq_true rfl) rfl (fun h3 H => ?_)
  have e0 := H.getP 0 rfl
  have e1 := H.getP 1 rfl
  simp (maxSteps := 4000000) -implicitDefEqProofs (disch := omega) only [push_cast, Nat.reduceAdd, Nat.reduceLeDiff, Nat.reduceMul, Nat.reduceSub, Nat.reduceLT, Nat.reduceEqDiff, Int.reduceAdd, Int.reduceSub, Int.reduceLE, Int.reduceLT, Int.reduceEq, Int.reduceNe, Int.reduceToNat, Int.reduceNeg, reduceIte, reduceCtorEq, e0, e1]
  obtain ⟨inv1, mu1, hi1, hs1⟩ := hm
  replace H := H.addNil 2 (some (40, 0))
  replace H := H.addNil 2 (some (40, 0))
  replace H := H.perm [0, 1, 2, 3] (by decide)
  refine awp_loop (σ := (Int × (List ApiChange) × Int × (List ApiChange) × Int) × AV × AV × Hp) (fun ⟨⟨a1, a2, a3, a4, a5⟩, x1, x2, h4⟩ => ⟨(((((List.replicate 44 AV.any).set 0 (.isl 1 (a0_.map (encSl 1 AM.encStr)))).set 1 (.isl 1 (a1_.map (encSl 1 AM.encStr)))).set 4 (.optr b1 2 0 0)).set 5 (.optr b2 2 0 0)).set 6 (aint a5), h4⟩) (fun ⟨⟨a1, a2, a3, a4, a5⟩, x1, x2, h4⟩ => inv1 (a1, a2, a3, a4, a5) ∧ AM.Own h0 h4 [⟨(.optr b1 2 0 0), true, 2, [[(aint a1), x1]], some (25, 2)⟩, ⟨(.optr b2 2 0 0), true, 2, [[(aint a3), x2]], some (25, 2)⟩, ⟨x1, false, 2, a2.map ApiChange.enc, some (40, 0)⟩, ⟨x2, false, 2, a4.map ApiChange.enc, some (40, 0)⟩]) (fun ⟨⟨a1, a2, a3, a4, a5⟩, x1, x2, h4⟩ => mu1 (a1, a2, a3, a4, a5)) ⟨(0, ([] : List ApiChange), (a1_.length : Int), ([] : List ApiChange), 0), anil, anil, h3⟩ (Retell.weak (by simp [Weak, push_cast]) (Hp.sub.refl _)) ⟨hi1, H⟩ ?_
  rintro ⟨⟨a1, a2, a3, a4, a5⟩, x1, x2, h4⟩ ⟨hi1, H⟩
  have hm := hs1 _ hi1
  dsimp only at hm H ⊢
  have e0 := H.getP 0 rfl
  have e1 := H.getP 1 rfl
  simp (maxSteps := 4000000) -implicitDefEqProofs (disch := omega) only [push_cast, Nat.reduceAdd, Nat.reduceLeDiff, Nat.reduceMul, Nat.reduceSub, Nat.reduceLT, Nat.reduceEqDiff, Int.reduceAdd, Int.reduceSub, Int.reduceLE, Int.reduceLT, Int.reduceEq, Int.reduceNe, Int.reduceToNat, Int.reduceNeg, reduceIte, reduceCtorEq, e0, e1]
  rw [fork_cond]
  refine ⟨fun c1 => ?_, fun c1 => ?_⟩
  · replace hm := ifp hm c1
    have e0 := H.getP 0 rfl
    have e1 := H.getP 1 rfl
    simp (maxSteps := 4000000) -implicitDefEqProofs (disch := omega) only [push_cast, Nat.reduceAdd, Nat.reduceLeDiff, Nat.reduceMul, Nat.reduceSub, Nat.reduceLT, Nat.reduceEqDiff, Int.reduceAdd, Int.reduceSub, Int.reduceLE, Int.reduceLT, Int.reduceEq, Int.reduceNe, Int.reduceToNat, Int.reduceNeg, reduceIte, reduceCtorEq, eq_true c1, e0, e1]
    obtain ⟨k1, hm, hk1⟩ := wcut_elim hm
    refine awp_cut (fun s' => ∃ (a6 : List ApiChange) (x3 : AV) (h5 : Hp), Like s'.tm ((((((List.replicate 44 none).set 0 (some (.isl 1 (a0_.map (encSl 1 AM.encStr))))).set 1 (some (.isl 1 (a1_.map (encSl 1 AM.encStr))))).set 4 (some (.optr b1 2 0 0))).set 5 (some (.optr b2 2 0 0))).set 6 (some (aint a5))) ∧ s'.h = h5 ∧ AM.Own h0 h5 [⟨(.optr b1 2 0 0), true, 2, [[(aint a1), x1]], some (25, 2)⟩, ⟨(.optr b2 2 0 0), true, 2, [[(aint a3), x3]], some (25, 2)⟩, ⟨x1, false, 2, a2.map ApiChange.enc, some (40, 0)⟩, ⟨x3, false, 2, a6.map ApiChange.enc, some (40, 0)⟩] ∧ k1 a6) ?_ ?_
    · have e0 := H.getP 0 rfl
      have e1 := H.getP 1 rfl
      simp (maxSteps := 4000000) -implicitDefEqProofs (disch := omega) only [push_cast, Nat.reduceAdd, Nat.reduceLeDiff, Nat.reduceMul, Nat.reduceSub, Nat.reduceLT, Nat.reduceEqDiff, Int.reduceAdd, Int.reduceSub, Int.reduceLE, Int.reduceLT, Int.reduceEq, Int.reduceNe, Int.reduceToNat, Int.reduceNeg, reduceIte, reduceCtorEq, eq_true c1, e0, e1]
      obtain ⟨k2, hm, hk2⟩ := wcut_elim hm
      refine awp_cut (fun s' => ∃ (h6 : Hp), Like s'.tm ((((((List.replicate 44 none).set 0 (some (.isl 1 (a0_.map (encSl 1 AM.encStr))))).set 1 (some (.isl 1 (a1_.map (encSl 1 AM.encStr))))).set 4 (some (.optr b1 2 0 0))).set 5 (some (.optr b2 2 0 0))).set 6 (some (aint a5))) ∧ s'.h = h6 ∧ AM.Own h0 h6 [⟨(.optr b1 2 0 0), true, 2, [[(aint a1), x1]], some (25, 2)⟩, ⟨(.optr b2 2 0 0), true, 2, [[(aint a3), x2]], some (25, 2)⟩, ⟨x1, false, 2, a2.map ApiChange.enc, some (40, 0)⟩, ⟨x2, false, 2, a4.map ApiChange.enc, some (40, 0)⟩] ∧ k2 ()) ?_ ?_
      · have e0 := H.getP 0 rfl
        have e1 := H.getP 1 rfl
        simp (maxSteps := 4000000) -implicitDefEqProofs (disch := omega) only [push_cast, Nat.reduceAdd, Nat.reduceLeDiff, Nat.reduceMul, Nat.reduceSub, Nat.reduceLT, Nat.reduceEqDiff, Int.reduceAdd, Int.reduceSub, Int.reduceLE, Int.reduceLT, Int.reduceEq, Int.reduceNe, Int.reduceToNat, Int.reduceNeg, reduceIte, reduceCtorEq, eq_true c1, e0, e1]
        rw [gfork_cond]
        refine ⟨fun c2 => ?_, fun c2 => ?_⟩
        · replace hm := ifp hm c2
          obtain ⟨z1, hm⟩ := hm
          obtain ⟨v1, i1, hm⟩ := hm
          obtain ⟨v2, i2, hm⟩ := hm
          have e0 := H.getP 0 rfl
          have e1 := H.getP 1 rfl
          simp (maxSteps := 4000000) -implicitDefEqProofs (disch := omega) only [push_cast, Nat.reduceAdd, Nat.reduceLeDiff, Nat.reduceMul, Nat.reduceSub, Nat.reduceLT, Nat.reduceEqDiff, Int.reduceAdd, Int.reduceSub, Int.reduceLE, Int.reduceLT, Int.reduceEq, Int.reduceNe, Int.reduceToNat, Int.reduceNeg, reduceIte, reduceCtorEq, eq_true c1, eq_true c2, eq_true z1, i1, i2, e0, e1]
          obtain ⟨r1, g1, hm⟩ := hm
          refine pures_of _ (pure_of_back (fun h => stylusref35_Lines.ok g1 h)) ?_
          have e0 := H.getP 0 rfl
          have e1 := H.getP 1 rfl
          simp (maxSteps := 4000000) -implicitDefEqProofs (disch := omega) only [push_cast, Nat.reduceAdd, Nat.reduceLeDiff, Nat.reduceMul, Nat.reduceSub, Nat.reduceLT, Nat.reduceEqDiff, Int.reduceAdd, Int.reduceSub, Int.reduceLE, Int.reduceLT, Int.reduceEq, Int.reduceNe, Int.reduceToNat, Int.reduceNeg, reduceIte, reduceCtorEq, eq_true c1, eq_true c2, eq_true z1, i1, i2, e0, e1]
          rw [fork_bool]
          refine ⟨fun c3 => ?_, fun c3 => ?_⟩
          · replace hm := ifp hm c3
            have e0 := H.getP 0 rfl
            have e1 := H.getP 1 rfl
            simp (maxSteps := 4000000) -implicitDefEqProofs (disch := omega) only [push_cast, Nat.reduceAdd, Nat.reduceLeDiff, Nat.reduceMul, Nat.reduceSub, Nat.reduceLT, Nat.reduceEqDiff, Int.reduceAdd, Int.reduceSub, Int.reduceLE, Int.reduceLT, Int.reduceEq, Int.reduceNe, Int.reduceToNat, Int.reduceNeg, reduceIte, reduceCtorEq, eq_true c1, eq_true c2, eq_true z1, i1, i2, c3, e0, e1]
            replace H := H.perm [0, 1, 2, 3] (by decide)
            exact ⟨a4, x2, h4, by simp [Like, push_cast], rfl, H, hm⟩
          · replace hm := ifn hm (by rw [c3]; exact Bool.false_ne_true)
            have e0 := H.getP 0 rfl
            have e1 := H.getP 1 rfl
            simp (maxSteps := 4000000) -implicitDefEqProofs (disch := omega) only [push_cast, Nat.reduceAdd, Nat.reduceLeDiff, Nat.reduceMul, Nat.reduceSub, Nat.reduceLT, Nat.reduceEqDiff, Int.reduceAdd, Int.reduceSub, Int.reduceLE, Int.reduceLT, Int.reduceEq, Int.reduceNe, Int.reduceToNat, Int.reduceNeg, reduceIte, reduceCtorEq, eq_true c1, eq_true c2, eq_true z1, i1, i2, c3, e0, e1]
            replace H := H.perm [0, 1, 2, 3] (by decide)
            exact ⟨h4, by simp [Like, push_cast], rfl, H, hm⟩
        · replace hm := ifn hm c2
          have e0 := H.getP 0 rfl
          have e1 := H.getP 1 rfl
          simp (maxSteps := 4000000) -implicitDefEqProofs (disch := omega) only [push_cast, Nat.reduceAdd, Nat.reduceLeDiff, Nat.reduceMul, Nat.reduceSub, Nat.reduceLT, Nat.reduceEqDiff, Int.reduceAdd, Int.reduceSub, Int.reduceLE, Int.reduceLT, Int.reduceEq, Int.reduceNe, Int.reduceToNat, Int.reduceNeg, reduceIte, reduceCtorEq, eq_true c1, eq_false c2, e0, e1]
          replace H := H.perm [0, 1, 2, 3] (by decide)
          exact ⟨h4, by simp [Like, push_cast], rfl, H, hm⟩
      · rintro ⟨tm, h6⟩ ⟨_, hL, rfl, H, hm⟩
        dsimp only at hL H
        obtain ⟨D, rfl⟩ := hL.fill 0
        replace hm := hk2 _ hm
        obtain ⟨w1, hm⟩ := hm
        obtain ⟨z2, hm⟩ := hm
        obtain ⟨v3, i3, hm⟩ := hm
        have e0 := H.getP 0 rfl
        have e1 := H.getP 1 rfl
        simp (maxSteps := 4000000) -implicitDefEqProofs (disch := omega) only [push_cast, Nat.reduceAdd, Nat.reduceLeDiff, Nat.reduceMul, Nat.reduceSub, Nat.reduceLT, Nat.reduceEqDiff, Int.reduceAdd, Int.reduceSub, Int.reduceLE, Int.reduceLT, Int.reduceEq, Int.reduceNe, Int.reduceToNat, Int.reduceNeg, reduceIte, reduceCtorEq, eq_true c1, wrap_i64 _ w1, eq_true z2, i3, e0, e1]
        refine H.newL (E := ApiChange.enc) ([(⟨a5 + 1, v3⟩ : ApiChange)] : List ApiChange) rfl rfl (fun b3 h7 H => ?_)
        have e0 := H.getP 0 rfl
        have e1 := H.getP 1 rfl
        simp (maxSteps := 4000000) -implicitDefEqProofs (disch := omega) only [push_cast, Nat.reduceAdd, Nat.reduceLeDiff, Nat.reduceMul, Nat.reduceSub, Nat.reduceLT, Nat.reduceEqDiff, Int.reduceAdd, Int.reduceSub, Int.reduceLE, Int.reduceLT, Int.reduceEq, Int.reduceNe, Int.reduceToNat, Int.reduceNeg, reduceIte, reduceCtorEq, eq_true c1, wrap_i64 _ w1, eq_true z2, i3, H.src (e := 40) 4 rfl, e0, e1]
        obtain ⟨w2, hm⟩ := hm
        refine H.appL (E := ApiChange.enc) 3 ([(⟨a5 + 1, v3⟩ : ApiChange)] : List ApiChange) rfl rfl rfl (by decide) (by decide) w2 (fun x4 h8 H => ?_)
        have e0 := H.getP 0 rfl
        have e1 := H.getP 1 rfl
        simp (maxSteps := 4000000) -implicitDefEqProofs (disch := omega) only [push_cast, Nat.reduceAdd, Nat.reduceLeDiff, Nat.reduceMul, Nat.reduceSub, Nat.reduceLT, Nat.reduceEqDiff, Int.reduceAdd, Int.reduceSub, Int.reduceLE, Int.reduceLT, Int.reduceEq, Int.reduceNe, Int.reduceToNat, Int.reduceNeg, reduceIte, reduceCtorEq, eq_true c1, wrap_i64 _ w1, eq_true z2, i3, e0, e1]
        refine H.stP 1 [(aint a3), x4] rfl (H.ok 3 rfl).1 (H.ok 3 rfl).2 rfl (Nat.le_of_ble_eq_true rfl) rfl (fun h9 H => ?_)
        have e0 := H.getP 0 rfl
        have e1 := H.getP 1 rfl
        simp (maxSteps := 4000000) -implicitDefEqProofs (disch := omega) only [push_cast, Nat.reduceAdd, Nat.reduceLeDiff, Nat.reduceMul, Nat.reduceSub, Nat.reduceLT, Nat.reduceEqDiff, Int.reduceAdd, Int.reduceSub, Int.reduceLE, Int.reduceLT, Int.reduceEq, Int.reduceNe, Int.reduceToNat, Int.reduceNeg, reduceIte, reduceCtorEq, eq_true c1, wrap_i64 _ w1, eq_true z2, i3, e0, e1]
        replace H := H.perm [0, 1, 2, 3] (by decide)
        exact ⟨a4 ++ ([(⟨a5 + 1, v3⟩ : ApiChange)] : List ApiChange), x4, h9, by simp [Like, push_cast], rfl, H, hm⟩
    · rintro ⟨tm, h5⟩ ⟨a6, x3, _, hL, rfl, H, hm⟩
      dsimp only at hL H
      obtain ⟨D, rfl⟩ := hL.fill 0
      replace hm := hk1 _ hm
      obtain ⟨w3, hm⟩ := hm
      have e0 := H.getP 0 rfl
      have e1 := H.getP 1 rfl
      simp (maxSteps := 4000000) -implicitDefEqProofs (disch := omega) only [push_cast, Nat.reduceAdd, Nat.reduceLeDiff, Nat.reduceMul, Nat.reduceSub, Nat.reduceLT, Nat.reduceEqDiff, Int.reduceAdd, Int.reduceSub, Int.reduceLE, Int.reduceLT, Int.reduceEq, Int.reduceNe, Int.reduceToNat, Int.reduceNeg, reduceIte, reduceCtorEq, eq_true c1, wrap_i64 _ w3, e0, e1]
      replace H := H.perm [0, 1, 2, 3] (by decide)
      exact ⟨⟨(a1, a2, a3, a6, a5 + 1), x1, x3, h5⟩, hm.2, ⟨hm.1, H⟩, Retell.weak (by simp [Weak, push_cast]) (Hp.sub.refl _)⟩
  · replace hm := ifn hm c1
    have e0 := H.getP 0 rfl
    have e1 := H.getP 1 rfl
    simp (maxSteps := 4000000) -implicitDefEqProofs (disch := omega) only [push_cast, Nat.reduceAdd, Nat.reduceLeDiff, Nat.reduceMul, Nat.reduceSub, Nat.reduceLT, Nat.reduceEqDiff, Int.reduceAdd, Int.reduceSub, Int.reduceLE, Int.reduceLT, Int.reduceEq, Int.reduceNe, Int.reduceToNat, Int.reduceNeg, reduceIte, reduceCtorEq, eq_false c1, e0, e1]
    refine H.stP 0 [(aint a3), x2] rfl rfl rfl rfl (Nat.le_of_ble_eq_true rfl) rfl (fun h10 H => ?_)
    have e0 := H.getP 0 rfl
    have e1 := H.getP 1 rfl
    simp (maxSteps := 4000000) -implicitDefEqProofs (disch := omega) only [push_cast, Nat.reduceAdd, Nat.reduceLeDiff, Nat.reduceMul, Nat.reduceSub, Nat.reduceLT, Nat.reduceEqDiff, Int.reduceAdd, Int.reduceSub, Int.reduceLE, Int.reduceLT, Int.reduceEq, Int.reduceNe, Int.reduceToNat, Int.reduceNeg, reduceIte, reduceCtorEq, eq_false c1, e0, e1]
    have e0 := H.getP 0 rfl
    have e1 := H.getP 1 rfl
    obtain ⟨h11, s1, H⟩ := H.freeze 3 rfl
    exact retQ_back (.inl rfl) (⟨a3, a4⟩ : ApiPatch) (.agg [(aint a3), x2]) (by simp [aResults, resAll, resOne, push_cast, e0, e1]) (Shift.agg s1 [_] []) H.sub hm
/-! stylus/stylusref35.Do -/
abbrev n_stylusref35_Do : Nat := 11
noncomputable def code_stylusref35_Do : Code := match Tryd.f11.body with | some c => c | none => .skip
def ann_stylusref35_Do : Nat → Ann
  | _ => {}
noncomputable def ac_stylusref35_Do_c2 : AC :=
  (.seq (.seq (.reg [⟨some 32, (Op.move (Operand.tmp 8)), none, false⟩, ⟨some 33, (Op.binOp BinOp.lss 3 (Operand.tmp 32) (Operand.const (Value.int IntKind.i64 0)) 3), none, false⟩, ⟨some 34, (Op.move (Operand.tmp 33)), none, false⟩, ⟨some 35, (Op.move (Operand.tmp 7)), (some (some 34, true)), false⟩, ⟨some 36, (Op.move (Operand.tmp 0)), (some (some 34, true)), false⟩, ⟨some 37, (Op.call (Call.mk (Callee.builtin Builtin.len) #[(Operand.tmp 36)] #[22])), (some (some 34, true)), false⟩, ⟨some 38, (Op.binOp BinOp.gtr 3 (Operand.tmp 35) (Operand.tmp 37) 3), (some (some 34, true)), false⟩, ⟨some 39, (Op.pick (Operand.tmp 34) (Operand.tmp 38) (Operand.const (Value.bool false))), none, false⟩]) (.cond (Operand.tmp 39) (.seq (.reg [⟨some 4, (Op.assign (Operand.const (Value.slice none 0 0))), none, false⟩, ⟨some 5, (Op.assign (Operand.const (Value.int IntKind.i64 1))), none, false⟩]) .ret) .skip)) (.seq (.reg [⟨some 40, (Op.move (Operand.tmp 8)), none, false⟩, ⟨some 41, (Op.binOp BinOp.lss 3 (Operand.tmp 40) (Operand.const (Value.int IntKind.i64 0)) 3), none, false⟩]) (.cond (Operand.tmp 41) (.reg [⟨some 42, (Op.move (Operand.tmp 6)), none, false⟩, ⟨some 43, (Op.move (Operand.tmp 0)), none, false⟩, ⟨some 44, (Op.move (Operand.tmp 7)), none, false⟩, ⟨some 45, (Op.binOp BinOp.sub 3 (Operand.tmp 44) (Operand.const (Value.int IntKind.i64 1)) 3), none, false⟩, ⟨some 46, (Op.indexAddr 22 (Operand.tmp 43) (Operand.tmp 45)), none, false⟩, ⟨some 47, (Op.load 38 (Operand.tmp 46)), none, false⟩, ⟨some 48, (Op.buildSlice 22 1 #[(0, (Operand.tmp 47))]), none, false⟩, ⟨some 49, (Op.call (Call.mk (Callee.builtin Builtin.append) #[(Operand.tmp 42), (Operand.tmp 48)] #[22, 22])), none, false⟩, ⟨some 6, (Op.assign (Operand.tmp 49)), none, false⟩]) (.reg [⟨some 50, (Op.move (Operand.tmp 6)), none, false⟩, ⟨some 51, (Op.fieldAddr 25 (Operand.tmp 3) 1), none, false⟩, ⟨some 52, (Op.load 23 (Operand.tmp 51)), none, false⟩, ⟨some 53, (Op.move (Operand.tmp 8)), none, false⟩, ⟨some 54, (Op.indexAddr 23 (Operand.tmp 52) (Operand.tmp 53)), none, false⟩, ⟨some 55, (Op.fieldAddr 40 (Operand.tmp 54) 1), none, false⟩, ⟨some 56, (Op.load 38 (Operand.tmp 55)), none, false⟩, ⟨some 57, (Op.buildSlice 22 1 #[(0, (Operand.tmp 56))]), none, false⟩, ⟨some 58, (Op.call (Call.mk (Callee.builtin Builtin.append) #[(Operand.tmp 50), (Operand.tmp 57)] #[22, 22])), none, false⟩, ⟨some 6, (Op.assign (Operand.tmp 58)), none, false⟩]))))
noncomputable def ac_stylusref35_Do_c1 : AC :=
  (.seq (.block 1 (.seq (.reg [⟨some 29, (Op.load 25 (Operand.tmp 3)), none, false⟩, ⟨some 30, (Op.move (Operand.tmp 7)), none, false⟩, ⟨some 31, (Op.call (Call.mk (Callee.value (Operand.func 23)) #[(Operand.tmp 29), (Operand.tmp 30)] #[25, 3])), none, false⟩, ⟨some 8, (Op.assign (Operand.tmp 31)), none, false⟩]) ac_stylusref35_Do_c2)) (.reg [⟨some 27, (Op.move (Operand.tmp 7)), none, false⟩, ⟨some 28, (Op.binOp BinOp.add 3 (Operand.tmp 27) (Operand.const (Value.int IntKind.i64 1)) 3), none, false⟩, ⟨some 7, (Op.assign (Operand.tmp 28)), none, false⟩]))
noncomputable def ac_stylusref35_Do : AC :=
  (.seq (.reg [⟨some 3, (Op.box 25 (Operand.tmp 1)), none, false⟩, ⟨some 4, (Op.assign (Operand.const (Value.slice none 0 0))), none, false⟩, ⟨some 5, (Op.assign (Operand.const (Value.int IntKind.i64 0))), none, false⟩]) (.seq (.seq (.reg [⟨some 9, (Op.load 25 (Operand.tmp 3)), none, false⟩, ⟨some 10, (Op.call (Call.mk (Callee.value (Operand.func 22)) #[(Operand.tmp 9)] #[25])), none, false⟩, ⟨some 11, (Op.unOp UnOp.not 4 (Operand.tmp 10)), none, false⟩, ⟨some 12, (Op.move (Operand.tmp 11)), none, false⟩, ⟨some 13, (Op.fieldAddr 25 (Operand.tmp 3) 0), (some (some 12, false)), false⟩, ⟨some 14, (Op.load 3 (Operand.tmp 13)), (some (some 12, false)), false⟩, ⟨some 15, (Op.move (Operand.tmp 0)), (some (some 12, false)), false⟩, ⟨some 16, (Op.call (Call.mk (Callee.builtin Builtin.len) #[(Operand.tmp 15)] #[22])), (some (some 12, false)), false⟩, ⟨some 17, (Op.fieldAddr 25 (Operand.tmp 3) 1), (some (some 12, false)), false⟩, ⟨some 18, (Op.load 23 (Operand.tmp 17)), (some (some 12, false)), false⟩, ⟨some 19, (Op.call (Call.mk (Callee.builtin Builtin.len) #[(Operand.tmp 18)] #[23])), (some (some 12, false)), false⟩, ⟨some 20, (Op.binOp BinOp.add 3 (Operand.tmp 16) (Operand.tmp 19) 3), (some (some 12, false)), false⟩, ⟨some 21, (Op.binOp BinOp.gtr 3 (Operand.tmp 14) (Operand.tmp 20) 3), (some (some 12, false)), false⟩, ⟨some 22, (Op.pick (Operand.tmp 12) (Operand.const (Value.bool true)) (Operand.tmp 21)), none, false⟩]) (.cond (Operand.tmp 22) (.seq (.reg [⟨some 4, (Op.assign (Operand.const (Value.slice none 0 0))), none, false⟩, ⟨some 5, (Op.assign (Operand.const (Value.int IntKind.i64 1))), none, false⟩]) .ret) .skip)) (.seq (.reg [⟨some 6, (Op.assign (Operand.const (Value.slice none 0 0))), none, false⟩]) (.seq (.seq (.reg [⟨some 7, (Op.assign (Operand.const (Value.int IntKind.i64 1))), none, false⟩]) (.block 0 (.loop (.seq (.seq (.reg [⟨some 23, (Op.move (Operand.tmp 7)), none, false⟩, ⟨some 24, (Op.fieldAddr 25 (Operand.tmp 3) 0), none, false⟩, ⟨some 25, (Op.load 3 (Operand.tmp 24)), none, false⟩, ⟨some 26, (Op.binOp BinOp.leq 3 (Operand.tmp 23) (Operand.tmp 25) 3), none, false⟩]) (.cond (Operand.tmp 26) .skip (.exit 0))) ac_stylusref35_Do_c1)))) (.seq (.reg [⟨some 59, (Op.move (Operand.tmp 6)), none, false⟩, ⟨some 4, (Op.assign (Operand.tmp 59)), none, false⟩, ⟨some 5, (Op.assign (Operand.const (Value.int IntKind.i64 0))), none, false⟩]) .ret)))))
theorem body_stylusref35_Do : Tryd.f11.body = some code_stylusref35_Do := by kernel_rfl
theorem slim_stylusref35_Do : slim ann_stylusref35_Do code_stylusref35_Do = some ac_stylusref35_Do := by kernel_rfl
theorem name_stylusref35_Do : (Tryd.f11.name == "runtime.NumGoroutine") = false := by kernel_rfl
theorem enter_stylusref35_Do {args : List AV} {h : Hp} {Q : AE → Hp → Prop} (H : awp Tryd.prog tab ac_stylusref35_Do (retQ tab [(ResultVar.tmp 4), (ResultVar.tmp 5)] Q) ⟨args ++ List.replicate (60 - args.length) .any, h⟩) : ACalls Tryd.prog 11 args h Q :=
  acalls_of tab_ok mixed Tryd.func11 body_stylusref35_Do name_stylusref35_Do slim_stylusref35_Do rfl Tryd.ntmps11 H
/-- stylus/stylusref35.Do -/
def stylusref35_Do.w (a0_ : List (List ByteArray)) (a1_ : ApiPatch) (Q : ((List (List ByteArray)) × Int) → Prop) : Prop :=
  stylusref35_Rising.w a1_ (fun r1 =>
    if (!r1) = true then
      Q (([] : List (List ByteArray)), 1)
    else
      (I64 ((a0_.length : Int) + (a1_.Changes.length : Int))) ∧
      if (a0_.length : Int) + (a1_.Changes.length : Int) < a1_.Pages then
        Q (([] : List (List ByteArray)), 1)
      else
        wloop (σ := (List (List ByteArray)) × Int) (fun ⟨a1, a2⟩ next1 =>
          if a2 ≤ a1_.Pages then
            wcut (α := (List (List ByteArray))) (fun k1 =>
              stylusref35_change.w a1_ a2 (fun r2 =>
                wcut (α := Unit) (fun k2 =>
                  if r2 < 0 then
                    if (a0_.length : Int) < a2 then
                      Q (([] : List (List ByteArray)), 1)
                    else
                      k2 ()
                  else
                    k2 ()) (fun _ =>
                  if r2 < 0 then
                    (I64 (a2 - 1)) ∧
                    (0 ≤ a2 - 1) ∧
                    ∃ v1 : List ByteArray, a0_[(a2 - 1).toNat]? = some v1 ∧
                    ((a1.length + ([v1] : List (List ByteArray)).length) * 24 ≤ 140737488355328) ∧
                    k1 (a1 ++ ([v1] : List (List ByteArray)))
                  else
                    (0 ≤ r2) ∧
                    ∃ v2 : ApiChange, a1_.Changes[r2.toNat]? = some v2 ∧
                    ((a1.length + ([v2.Lines] : List (List ByteArray)).length) * 24 ≤ 140737488355328) ∧
                    k1 (a1 ++ ([v2.Lines] : List (List ByteArray)))))) (fun a3 =>
              (I64 (a2 + 1)) ∧
              next1 (a3, a2 + 1))
          else
            Q (a1, 0)) (([] : List (List ByteArray)), 1))
theorem stylusref35_Do.ok {a0_ : List (List ByteArray)} {a1_ : ApiPatch} {Q : ((List (List ByteArray)) × Int) → Prop} (hm : stylusref35_Do.w a0_ a1_ Q) (h0 : Hp) : ACalls Tryd.prog n_stylusref35_Do [(.isl 1 (a0_.map (encSl 1 AM.encStr))), (.agg (ApiPatch.enc a1_))] h0 (Back h0 (fun r => .tup [(.isl 1 (r.1.map (encSl 1 AM.encStr))), (aint r.2)]) Q) := by
  refine enter_stylusref35_Do ?_
  unfold stylusref35_Do.w at hm
  have H := AM.Own.nil h0
  simp (maxSteps := 4000000) -implicitDefEqProofs (disch := omega) only [push_cast, Nat.reduceAdd, Nat.reduceLeDiff, Nat.reduceMul, Nat.reduceSub, Nat.reduceLT, Nat.reduceEqDiff, Int.reduceAdd, Int.reduceSub, Int.reduceLE, Int.reduceLT, Int.reduceEq, Int.reduceNe, Int.reduceToNat, Int.reduceNeg, reduceIte, reduceCtorEq, ac_stylusref35_Do]
  refine H.newR (ApiPatch.enc a1_) rfl (fun b1 h1 H => ?_)
  have e0 := H.getP 0 rfl
  simp (maxSteps := 4000000) -implicitDefEqProofs (disch := omega) only [push_cast, Nat.reduceAdd, Nat.reduceLeDiff, Nat.reduceMul, Nat.reduceSub, Nat.reduceLT, Nat.reduceEqDiff, Int.reduceAdd, Int.reduceSub, Int.reduceLE, Int.reduceLT, Int.reduceEq, Int.reduceNe, Int.reduceToNat, Int.reduceNeg, reduceIte, reduceCtorEq, e0]
  refine calls_w (fun h => stylusref35_Rising.ok hm h) (fun r1 hm => ?_)
  have e0 := H.getP 0 rfl
  simp (maxSteps := 4000000) -implicitDefEqProofs (disch := omega) only [push_cast, Nat.reduceAdd, Nat.reduceLeDiff, Nat.reduceMul, Nat.reduceSub, Nat.reduceLT, Nat.reduceEqDiff, Int.reduceAdd, Int.reduceSub, Int.reduceLE, Int.reduceLT, Int.reduceEq, Int.reduceNe, Int.reduceToNat, Int.reduceNeg, reduceIte, reduceCtorEq, e0]
  rw [gfork_bool']
  refine ⟨fun c1 => ?_, fun c1 => ?_⟩
  · replace hm := ifp hm c1
    have e0 := H.getP 0 rfl
    simp (maxSteps := 4000000) -implicitDefEqProofs (disch := omega) only [push_cast, Nat.reduceAdd, Nat.reduceLeDiff, Nat.reduceMul, Nat.reduceSub, Nat.reduceLT, Nat.reduceEqDiff, Int.reduceAdd, Int.reduceSub, Int.reduceLE, Int.reduceLT, Int.reduceEq, Int.reduceNe, Int.reduceToNat, Int.reduceNeg, reduceIte, reduceCtorEq, c1, e0]
    exact retQ_back (.inl rfl) (([] : List (List ByteArray)), 1) _ rfl (Shift.tup (Shifts.at (Shift.nil _ 1) [] [_])) H.sub hm
  · replace hm := ifn hm (by rw [c1]; exact Bool.false_ne_true)
    obtain ⟨w1, hm⟩ := hm
    have e0 := H.getP 0 rfl
    simp (maxSteps := 4000000) -implicitDefEqProofs (disch := omega) only [push_cast, Nat.reduceAdd, Nat.reduceLeDiff, Nat.reduceMul, Nat.reduceSub, Nat.reduceLT, Nat.reduceEqDiff, Int.reduceAdd, Int.reduceSub, Int.reduceLE, Int.reduceLT, Int.reduceEq, Int.reduceNe, Int.reduceToNat, Int.reduceNeg, reduceIte, reduceCtorEq, c1, wrap_i64 _ w1, e0]
    rw [fork_cond]
    refine ⟨fun c2 => ?_, fun c2 => ?_⟩
    · replace hm := ifp hm c2
      have e0 := H.getP 0 rfl
      simp (maxSteps := 4000000) -implicitDefEqProofs (disch := omega) only [push_cast, Nat.reduceAdd, Nat.reduceLeDiff, Nat.reduceMul, Nat.reduceSub, Nat.reduceLT, Nat.reduceEqDiff, Int.reduceAdd, Int.reduceSub, Int.reduceLE, Int.reduceLT, Int.reduceEq, Int.reduceNe, Int.reduceToNat, Int.reduceNeg, reduceIte, reduceCtorEq, c1, wrap_i64 _ w1, eq_true c2, e0]
      exact retQ_back (.inl rfl) (([] : List (List ByteArray)), 1) _ rfl (Shift.tup (Shifts.at (Shift.nil _ 1) [] [_])) H.sub hm
    · replace hm := ifn hm c2
      have e0 := H.getP 0 rfl
      simp (maxSteps := 4000000) -implicitDefEqProofs (disch := omega) only [push_cast, Nat.reduceAdd, Nat.reduceLeDiff, Nat.reduceMul, Nat.reduceSub, Nat.reduceLT, Nat.reduceEqDiff, Int.reduceAdd, Int.reduceSub, Int.reduceLE, Int.reduceLT, Int.reduceEq, Int.reduceNe, Int.reduceToNat, Int.reduceNeg, reduceIte, reduceCtorEq, c1, wrap_i64 _ w1, eq_false c2, e0]
      obtain ⟨inv1, mu1, hi1, hs1⟩ := hm
      replace H := H.addNil 1 (some (38, 0))
      replace H := H.perm [0, 1] (by decide)
      refine awp_loop (σ := ((List (List ByteArray)) × Int) × AV × Hp) (fun ⟨⟨a1, a2⟩, x1, h2⟩ => ⟨((((List.replicate 60 AV.any).set 0 (.isl 1 (a0_.map (encSl 1 AM.encStr)))).set 3 (.optr b1 2 0 0)).set 6 x1).set 7 (aint a2), h2⟩) (fun ⟨⟨a1, a2⟩, x1, h2⟩ => inv1 (a1, a2) ∧ AM.Own h0 h2 [⟨(.optr b1 2 0 0), true, 2, [(ApiPatch.enc a1_)], some (25, 2)⟩, ⟨x1, false, 1, a1.map (encSl 1 AM.encStr), some (38, 0)⟩]) (fun ⟨⟨a1, a2⟩, x1, h2⟩ => mu1 (a1, a2)) ⟨(([] : List (List ByteArray)), 1), anil, h1⟩ (Retell.weak (by simp [Weak, push_cast]) (Hp.sub.refl _)) ⟨hi1, H⟩ ?_
      rintro ⟨⟨a1, a2⟩, x1, h2⟩ ⟨hi1, H⟩
      have hm := hs1 _ hi1
      dsimp only at hm H ⊢
      have e0 := H.getP 0 rfl
      simp (maxSteps := 4000000) -implicitDefEqProofs (disch := omega) only [push_cast, Nat.reduceAdd, Nat.reduceLeDiff, Nat.reduceMul, Nat.reduceSub, Nat.reduceLT, Nat.reduceEqDiff, Int.reduceAdd, Int.reduceSub, Int.reduceLE, Int.reduceLT, Int.reduceEq, Int.reduceNe, Int.reduceToNat, Int.reduceNeg, reduceIte, reduceCtorEq, c1, wrap_i64 _ w1, eq_false c2, e0]
      rw [fork_cond]
      refine ⟨fun c3 => ?_, fun c3 => ?_⟩
      · replace hm := ifp hm c3
        have e0 := H.getP 0 rfl
        simp (maxSteps := 4000000) -implicitDefEqProofs (disch := omega) only [push_cast, Nat.reduceAdd, Nat.reduceLeDiff, Nat.reduceMul, Nat.reduceSub, Nat.reduceLT, Nat.reduceEqDiff, Int.reduceAdd, Int.reduceSub, Int.reduceLE, Int.reduceLT, Int.reduceEq, Int.reduceNe, Int.reduceToNat, Int.reduceNeg, reduceIte, reduceCtorEq, c1, wrap_i64 _ w1, eq_false c2, eq_true c3, e0]
        obtain ⟨k1, hm, hk1⟩ := wcut_elim hm
        refine awp_cut (fun s' => ∃ (a3 : List (List ByteArray)) (x2 : AV) (h3 : Hp), Like s'.tm (((((List.replicate 60 none).set 0 (some (.isl 1 (a0_.map (encSl 1 AM.encStr))))).set 3 (some (.optr b1 2 0 0))).set 6 (some x2)).set 7 (some (aint a2))) ∧ s'.h = h3 ∧ AM.Own h0 h3 [⟨(.optr b1 2 0 0), true, 2, [(ApiPatch.enc a1_)], some (25, 2)⟩, ⟨x2, false, 1, a3.map (encSl 1 AM.encStr), some (38, 0)⟩] ∧ k1 a3) ?_ ?_
        · have e0 := H.getP 0 rfl
          simp (maxSteps := 4000000) -implicitDefEqProofs (disch := omega) only [push_cast, Nat.reduceAdd, Nat.reduceLeDiff, Nat.reduceMul, Nat.reduceSub, Nat.reduceLT, Nat.reduceEqDiff, Int.reduceAdd, Int.reduceSub, Int.reduceLE, Int.reduceLT, Int.reduceEq, Int.reduceNe, Int.reduceToNat, Int.reduceNeg, reduceIte, reduceCtorEq, c1, wrap_i64 _ w1, eq_false c2, eq_true c3, e0]
          refine calls_w (fun h => stylusref35_change.ok hm h) (fun r2 hm => ?_)
          have e0 := H.getP 0 rfl
          simp (maxSteps := 4000000) -implicitDefEqProofs (disch := omega) only [push_cast, Nat.reduceAdd, Nat.reduceLeDiff, Nat.reduceMul, Nat.reduceSub, Nat.reduceLT, Nat.reduceEqDiff, Int.reduceAdd, Int.reduceSub, Int.reduceLE, Int.reduceLT, Int.reduceEq, Int.reduceNe, Int.reduceToNat, Int.reduceNeg, reduceIte, reduceCtorEq, c1, wrap_i64 _ w1, eq_false c2, eq_true c3, e0]
          obtain ⟨k2, hm, hk2⟩ := wcut_elim hm
          refine awp_cut (fun s' => ∃ (h4 : Hp), Like s'.tm ((((((List.replicate 60 none).set 0 (some (.isl 1 (a0_.map (encSl 1 AM.encStr))))).set 3 (some (.optr b1 2 0 0))).set 6 (some x1)).set 7 (some (aint a2))).set 8 (some (aint r2))) ∧ s'.h = h4 ∧ AM.Own h0 h4 [⟨(.optr b1 2 0 0), true, 2, [(ApiPatch.enc a1_)], some (25, 2)⟩, ⟨x1, false, 1, a1.map (encSl 1 AM.encStr), some (38, 0)⟩] ∧ k2 ()) ?_ ?_
          · have e0 := H.getP 0 rfl
            simp (maxSteps := 4000000) -implicitDefEqProofs (disch := omega) only [push_cast, Nat.reduceAdd, Nat.reduceLeDiff, Nat.reduceMul, Nat.reduceSub, Nat.reduceLT, Nat.reduceEqDiff, Int.reduceAdd, Int.reduceSub, Int.reduceLE, Int.reduceLT, Int.reduceEq, Int.reduceNe, Int.reduceToNat, Int.reduceNeg, reduceIte, reduceCtorEq, c1, wrap_i64 _ w1, eq_false c2, eq_true c3, e0]
            rw [gfork_cond]
            refine ⟨fun c4 => ?_, fun c4 => ?_⟩
            · replace hm := ifp hm c4
              have e0 := H.getP 0 rfl
              simp (maxSteps := 4000000) -implicitDefEqProofs (disch := omega) only [push_cast, Nat.reduceAdd, Nat.reduceLeDiff, Nat.reduceMul, Nat.reduceSub, Nat.reduceLT, Nat.reduceEqDiff, Int.reduceAdd, Int.reduceSub, Int.reduceLE, Int.reduceLT, Int.reduceEq, Int.reduceNe, Int.reduceToNat, Int.reduceNeg, reduceIte, reduceCtorEq, c1, wrap_i64 _ w1, eq_false c2, eq_true c3, eq_true c4, e0]
              rw [fork_cond]
              refine ⟨fun c5 => ?_, fun c5 => ?_⟩
              · replace hm := ifp hm c5
                have e0 := H.getP 0 rfl
                simp (maxSteps := 4000000) -implicitDefEqProofs (disch := omega) only [push_cast, Nat.reduceAdd, Nat.reduceLeDiff, Nat.reduceMul, Nat.reduceSub, Nat.reduceLT, Nat.reduceEqDiff, Int.reduceAdd, Int.reduceSub, Int.reduceLE, Int.reduceLT, Int.reduceEq, Int.reduceNe, Int.reduceToNat, Int.reduceNeg, reduceIte, reduceCtorEq, c1, wrap_i64 _ w1, eq_false c2, eq_true c3, eq_true c4, eq_true c5, e0]
                exact retQ_back (.inl rfl) (([] : List (List ByteArray)), 1) _ rfl (Shift.tup (Shifts.at (Shift.nil _ 1) [] [_])) H.sub hm
              · replace hm := ifn hm c5
                have e0 := H.getP 0 rfl
                simp (maxSteps := 4000000) -implicitDefEqProofs (disch := omega) only [push_cast, Nat.reduceAdd, Nat.reduceLeDiff, Nat.reduceMul, Nat.reduceSub, Nat.reduceLT, Nat.reduceEqDiff, Int.reduceAdd, Int.reduceSub, Int.reduceLE, Int.reduceLT, Int.reduceEq, Int.reduceNe, Int.reduceToNat, Int.reduceNeg, reduceIte, reduceCtorEq, c1, wrap_i64 _ w1, eq_false c2, eq_true c3, eq_true c4, eq_false c5, e0]
                replace H := H.perm [0, 1] (by decide)
                exact ⟨h2, by simp [Like, push_cast], rfl, H, hm⟩
            · replace hm := ifn hm c4
              have e0 := H.getP 0 rfl
              simp (maxSteps := 4000000) -implicitDefEqProofs (disch := omega) only [push_cast, Nat.reduceAdd, Nat.reduceLeDiff, Nat.reduceMul, Nat.reduceSub, Nat.reduceLT, Nat.reduceEqDiff, Int.reduceAdd, Int.reduceSub, Int.reduceLE, Int.reduceLT, Int.reduceEq, Int.reduceNe, Int.reduceToNat, Int.reduceNeg, reduceIte, reduceCtorEq, c1, wrap_i64 _ w1, eq_false c2, eq_true c3, eq_false c4, e0]
              replace H := H.perm [0, 1] (by decide)
              exact ⟨h2, by simp [Like, push_cast], rfl, H, hm⟩
          · rintro ⟨tm, h4⟩ ⟨_, hL, rfl, H, hm⟩
            dsimp only at hL H
            obtain ⟨D, rfl⟩ := hL.fill 0
            replace hm := hk2 _ hm
            have e0 := H.getP 0 rfl
            simp (maxSteps := 4000000) -implicitDefEqProofs (disch := omega) only [push_cast, Nat.reduceAdd, Nat.reduceLeDiff, Nat.reduceMul, Nat.reduceSub, Nat.reduceLT, Nat.reduceEqDiff, Int.reduceAdd, Int.reduceSub, Int.reduceLE, Int.reduceLT, Int.reduceEq, Int.reduceNe, Int.reduceToNat, Int.reduceNeg, reduceIte, reduceCtorEq, c1, wrap_i64 _ w1, eq_false c2, eq_true c3, e0]
            rw [fork_cond]
            refine ⟨fun c6 => ?_, fun c6 => ?_⟩
            · replace hm := ifp hm c6
              obtain ⟨w2, hm⟩ := hm
              obtain ⟨z1, hm⟩ := hm
              obtain ⟨v1, i1, hm⟩ := hm
              have e0 := H.getP 0 rfl
              simp (maxSteps := 4000000) -implicitDefEqProofs (disch := omega) only [push_cast, Nat.reduceAdd, Nat.reduceLeDiff, Nat.reduceMul, Nat.reduceSub, Nat.reduceLT, Nat.reduceEqDiff, Int.reduceAdd, Int.reduceSub, Int.reduceLE, Int.reduceLT, Int.reduceEq, Int.reduceNe, Int.reduceToNat, Int.reduceNeg, reduceIte, reduceCtorEq, c1, wrap_i64 _ w1, eq_false c2, eq_true c3, eq_true c6, wrap_i64 _ w2, eq_true z1, i1, e0]
              refine H.newL (E := (encSl 1 AM.encStr)) ([v1] : List (List ByteArray)) rfl rfl (fun b2 h5 H => ?_)
              have e0 := H.getP 0 rfl
              simp (maxSteps := 4000000) -implicitDefEqProofs (disch := omega) only [push_cast, Nat.reduceAdd, Nat.reduceLeDiff, Nat.reduceMul, Nat.reduceSub, Nat.reduceLT, Nat.reduceEqDiff, Int.reduceAdd, Int.reduceSub, Int.reduceLE, Int.reduceLT, Int.reduceEq, Int.reduceNe, Int.reduceToNat, Int.reduceNeg, reduceIte, reduceCtorEq, c1, wrap_i64 _ w1, eq_false c2, eq_true c3, eq_true c6, wrap_i64 _ w2, eq_true z1, i1, H.src (e := 38) 2 rfl, e0]
              obtain ⟨w3, hm⟩ := hm
              refine H.appL (E := (encSl 1 AM.encStr)) 1 ([v1] : List (List ByteArray)) rfl rfl rfl (by decide) (by decide) w3 (fun x3 h6 H => ?_)
              have e0 := H.getP 0 rfl
              simp (maxSteps := 4000000) -implicitDefEqProofs (disch := omega) only [push_cast, Nat.reduceAdd, Nat.reduceLeDiff, Nat.reduceMul, Nat.reduceSub, Nat.reduceLT, Nat.reduceEqDiff, Int.reduceAdd, Int.reduceSub, Int.reduceLE, Int.reduceLT, Int.reduceEq, Int.reduceNe, Int.reduceToNat, Int.reduceNeg, reduceIte, reduceCtorEq, c1, wrap_i64 _ w1, eq_false c2, eq_true c3, eq_true c6, wrap_i64 _ w2, eq_true z1, i1, e0]
              replace H := H.perm [0, 1] (by decide)
              exact ⟨a1 ++ ([v1] : List (List ByteArray)), x3, h6, by simp [Like, push_cast], rfl, H, hm⟩
            · replace hm := ifn hm c6
              obtain ⟨z2, hm⟩ := hm
              obtain ⟨v2, i2, hm⟩ := hm
              have e0 := H.getP 0 rfl
              simp (maxSteps := 4000000) -implicitDefEqProofs (disch := omega) only [push_cast, Nat.reduceAdd, Nat.reduceLeDiff, Nat.reduceMul, Nat.reduceSub, Nat.reduceLT, Nat.reduceEqDiff, Int.reduceAdd, Int.reduceSub, Int.reduceLE, Int.reduceLT, Int.reduceEq, Int.reduceNe, Int.reduceToNat, Int.reduceNeg, reduceIte, reduceCtorEq, c1, wrap_i64 _ w1, eq_false c2, eq_true c3, eq_false c6, eq_true z2, i2, e0]
              refine H.newL (E := (encSl 1 AM.encStr)) ([v2.Lines] : List (List ByteArray)) rfl rfl (fun b3 h7 H => ?_)
              have e0 := H.getP 0 rfl
              simp (maxSteps := 4000000) -implicitDefEqProofs (disch := omega) only [push_cast, Nat.reduceAdd, Nat.reduceLeDiff, Nat.reduceMul, Nat.reduceSub, Nat.reduceLT, Nat.reduceEqDiff, Int.reduceAdd, Int.reduceSub, Int.reduceLE, Int.reduceLT, Int.reduceEq, Int.reduceNe, Int.reduceToNat, Int.reduceNeg, reduceIte, reduceCtorEq, c1, wrap_i64 _ w1, eq_false c2, eq_true c3, eq_false c6, eq_true z2, i2, H.src (e := 38) 2 rfl, e0]
              obtain ⟨w4, hm⟩ := hm
              refine H.appL (E := (encSl 1 AM.encStr)) 1 ([v2.Lines] : List (List ByteArray)) rfl rfl rfl (by decide) (by decide) w4 (fun x4 h8 H => ?_)
              have e0 := H.getP 0 rfl
              simp (maxSteps := 4000000) -implicitDefEqProofs (disch := omega) only [push_cast, Nat.reduceAdd, Nat.reduceLeDiff, Nat.reduceMul, Nat.reduceSub, Nat.reduceLT, Nat.reduceEqDiff, Int.reduceAdd, Int.reduceSub, Int.reduceLE, Int.reduceLT, Int.reduceEq, Int.reduceNe, Int.reduceToNat, Int.reduceNeg, reduceIte, reduceCtorEq, c1, wrap_i64 _ w1, eq_false c2, eq_true c3, eq_false c6, eq_true z2, i2, e0]
              replace H := H.perm [0, 1] (by decide)
              exact ⟨a1 ++ ([v2.Lines] : List (List ByteArray)), x4, h8, by simp [Like, push_cast], rfl, H, hm⟩
        · rintro ⟨tm, h3⟩ ⟨a3, x2, _, hL, rfl, H, hm⟩
          dsimp only at hL H
          obtain ⟨D, rfl⟩ := hL.fill 0
          replace hm := hk1 _ hm
          obtain ⟨w5, hm⟩ := hm
          have e0 := H.getP 0 rfl
          simp (maxSteps := 4000000) -implicitDefEqProofs (disch := omega) only [push_cast, Nat.reduceAdd, Nat.reduceLeDiff, Nat.reduceMul, Nat.reduceSub, Nat.reduceLT, Nat.reduceEqDiff, Int.reduceAdd, Int.reduceSub, Int.reduceLE, Int.reduceLT, Int.reduceEq, Int.reduceNe, Int.reduceToNat, Int.reduceNeg, reduceIte, reduceCtorEq, c1, wrap_i64 _ w1, eq_false c2, eq_true c3, wrap_i64 _ w5, e0]
          replace H := H.perm [0, 1] (by decide)
          exact ⟨⟨(a3, a2 + 1), x2, h3⟩, hm.2, ⟨hm.1, H⟩, Retell.weak (by simp [Weak, push_cast]) (Hp.sub.refl _)⟩
      · replace hm := ifn hm c3
        have e0 := H.getP 0 rfl
        simp (maxSteps := 4000000) -implicitDefEqProofs (disch := omega) only [push_cast, Nat.reduceAdd, Nat.reduceLeDiff, Nat.reduceMul, Nat.reduceSub, Nat.reduceLT, Nat.reduceEqDiff, Int.reduceAdd, Int.reduceSub, Int.reduceLE, Int.reduceLT, Int.reduceEq, Int.reduceNe, Int.reduceToNat, Int.reduceNeg, reduceIte, reduceCtorEq, c1, wrap_i64 _ w1, eq_false c2, eq_false c3, e0]
        obtain ⟨h9, s1, H⟩ := H.freeze 1 rfl
        exact retQ_back (.inl rfl) (a1, 0) _ rfl (Shift.tup (Shifts.at s1 [] [_])) H.sub hm
/-! stylus/stylusref16.Split -/
abbrev n_stylusref16_Split : Nat := 35
noncomputable def code_stylusref16_Split : Code := match Tryd.f35.body with | some c => c | none => .skip
def ann_stylusref16_Split : Nat → Ann
  | 7 => { pure := [], plan := (.op 0 (.op 1 (.op 2 (.op 3 (.op 4 (.op 5 (.op 6 (.op 7 (.op 8 (.op 9 (.op 10 (.op 11 (.op 12 (.op 13 (.op 14 (.op 15 (.op 16 (.op 17 .done)))))))))))))))))), ghost := false, post := false }
  | _ => {}
noncomputable def ac_stylusref16_Split_c1 : AC :=
  (.seq (.block 1 (.seq (.reg [⟨some 14, (Op.move (Operand.tmp 0)), none, false⟩, ⟨some 15, (Op.move (Operand.tmp 6)), none, false⟩, ⟨some 16, (Op.index 9 (Operand.tmp 14) (Operand.tmp 15)), none, false⟩, ⟨some 17, (Op.move (Operand.tmp 1)), none, false⟩, ⟨some 18, (Op.binOp BinOp.eql 5 (Operand.tmp 16) (Operand.tmp 17) 5), none, false⟩]) (.cond (Operand.tmp 18) (.reg [⟨some 19, (Op.move (Operand.tmp 5)), none, false⟩, ⟨some 20, (Op.buildSlice 38 1 #[(0, (Operand.const (Value.string (ByteArray.mk #[]))))]), none, false⟩, ⟨some 21, (Op.call (Call.mk (Callee.builtin Builtin.append) #[(Operand.tmp 19), (Operand.tmp 20)] #[38, 38])), none, false⟩, ⟨some 5, (Op.assign (Operand.tmp 21)), none, false⟩]) (.draw [⟨some 22, (Op.move (Operand.tmp 5)), none, false⟩, ⟨some 23, (Op.move (Operand.tmp 5)), none, false⟩, ⟨some 24, (Op.call (Call.mk (Callee.builtin Builtin.len) #[(Operand.tmp 23)] #[38])), none, false⟩, ⟨some 25, (Op.binOp BinOp.sub 3 (Operand.tmp 24) (Operand.const (Value.int IntKind.i64 1)) 3), none, false⟩, ⟨some 26, (Op.move (Operand.tmp 5)), none, false⟩, ⟨some 27, (Op.move (Operand.tmp 5)), none, false⟩, ⟨some 28, (Op.call (Call.mk (Callee.builtin Builtin.len) #[(Operand.tmp 27)] #[38])), none, false⟩, ⟨some 29, (Op.binOp BinOp.sub 3 (Operand.tmp 28) (Operand.const (Value.int IntKind.i64 1)) 3), none, false⟩, ⟨some 30, (Op.indexAddr 38 (Operand.tmp 26) (Operand.tmp 29)), none, false⟩, ⟨some 31, (Op.load 9 (Operand.tmp 30)), none, false⟩, ⟨some 32, (Op.move (Operand.tmp 0)), none, false⟩, ⟨some 33, (Op.move (Operand.tmp 6)), none, false⟩, ⟨some 34, (Op.move (Operand.tmp 6)), none, false⟩, ⟨some 35, (Op.binOp BinOp.add 3 (Operand.tmp 34) (Operand.const (Value.int IntKind.i64 1)) 3), none, false⟩, ⟨some 36, (Op.slice 9 (Operand.tmp 32) (some (Operand.tmp 33)) (some (Operand.tmp 35)) none), none, false⟩, ⟨some 37, (Op.binOp BinOp.add 9 (Operand.tmp 31) (Operand.tmp 36) 9), none, false⟩, ⟨some 38, (Op.indexAddr 38 (Operand.tmp 22) (Operand.tmp 25)), none, false⟩, ⟨none, (Op.store 9 (Operand.tmp 38) (Operand.tmp 37)), none, false⟩] (.op 0 (.op 1 (.op 2 (.op 3 (.op 4 (.op 5 (.op 6 (.op 7 (.op 8 (.op 9 (.op 10 (.op 11 (.op 12 (.op 13 (.op 14 (.op 15 (.op 16 (.op 17 .done)))))))))))))))))))))) (.reg [⟨some 12, (Op.move (Operand.tmp 6)), none, false⟩, ⟨some 13, (Op.binOp BinOp.add 3 (Operand.tmp 12) (Operand.const (Value.int IntKind.i64 1)) 3), none, false⟩, ⟨some 6, (Op.assign (Operand.tmp 13)), none, false⟩]))
noncomputable def ac_stylusref16_Split : AC :=
  (.seq (.reg [⟨some 4, (Op.assign (Operand.const (Value.slice none 0 0))), none, false⟩]) (.seq (.reg [⟨some 7, (Op.buildSlice 38 1 #[(0, (Operand.const (Value.string (ByteArray.mk #[]))))]), none, false⟩, ⟨some 5, (Op.assign (Operand.tmp 7)), none, false⟩]) (.seq (.seq (.reg [⟨some 6, (Op.assign (Operand.const (Value.int IntKind.i64 0))), none, false⟩]) (.block 0 (.loop (.seq (.seq (.reg [⟨some 8, (Op.move (Operand.tmp 6)), none, false⟩, ⟨some 9, (Op.move (Operand.tmp 0)), none, false⟩, ⟨some 10, (Op.call (Call.mk (Callee.builtin Builtin.len) #[(Operand.tmp 9)] #[9])), none, false⟩, ⟨some 11, (Op.binOp BinOp.lss 3 (Operand.tmp 8) (Operand.tmp 10) 3), none, false⟩]) (.cond (Operand.tmp 11) .skip (.exit 0))) ac_stylusref16_Split_c1)))) (.seq (.reg [⟨some 39, (Op.move (Operand.tmp 5)), none, false⟩, ⟨some 4, (Op.assign (Operand.tmp 39)), none, false⟩]) .ret))))
theorem body_stylusref16_Split : Tryd.f35.body = some code_stylusref16_Split := by kernel_rfl
theorem slim_stylusref16_Split : slim ann_stylusref16_Split code_stylusref16_Split = some ac_stylusref16_Split := by kernel_rfl
theorem name_stylusref16_Split : (Tryd.f35.name == "runtime.NumGoroutine") = false := by kernel_rfl
theorem enter_stylusref16_Split {args : List AV} {h : Hp} {Q : AE → Hp → Prop} (H : awp Tryd.prog tab ac_stylusref16_Split (retQ tab [(ResultVar.tmp 4)] Q) ⟨args ++ List.replicate (40 - args.length) .any, h⟩) : ACalls Tryd.prog 35 args h Q :=
  acalls_of tab_ok mixed Tryd.func35 body_stylusref16_Split name_stylusref16_Split slim_stylusref16_Split rfl Tryd.ntmps35 H
/-- stylus/stylusref16.Split -/
def stylusref16_Split.w (a0_ : ByteArray) (a1_ : Int) (Q : (List ByteArray) → Prop) : Prop :=
  wloop (σ := (List ByteArray) × Int) (fun ⟨a1, a2⟩ next1 =>
    if a2 < (a0_.size : Int) then
      wcut (α := (List ByteArray)) (fun k1 =>
        (0 ≤ a2) ∧
        ∃ v1 : UInt8, a0_[a2.toNat]? = some v1 ∧
        if (v1.toNat : Int) = a1_ then
          ((a1.length + ([(ByteArray.mk #[])] : List ByteArray).length) * 16 ≤ 140737488355328) ∧
          k1 (a1 ++ ([(ByteArray.mk #[])] : List ByteArray))
        else
          (I64 ((a1.length : Int) - 1)) ∧
          (I64 ((a1.length : Int) - 1)) ∧
          (0 ≤ (a1.length : Int) - 1) ∧
          ∃ v2 : ByteArray, a1[((a1.length : Int) - 1).toNat]? = some v2 ∧
          (I64 (a2 + 1)) ∧
          (0 ≤ a2 + 1) ∧
          (a2.toNat ≤ (a2 + 1).toNat) ∧
          ((a2 + 1).toNat ≤ a0_.size) ∧
          (v2.size + (a0_.extract a2.toNat ((a2 + 1).toNat)).size ≤ 9223372036854775807) ∧
          k1 (a1.set (((a1.length : Int) - 1).toNat) (v2 ++ (a0_.extract a2.toNat ((a2 + 1).toNat))))) (fun a3 =>
        (I64 (a2 + 1)) ∧
        next1 (a3, a2 + 1))
    else
      Q a1) (([(ByteArray.mk #[])] : List ByteArray), 0)
theorem stylusref16_Split.ok {a0_ : ByteArray} {a1_ : Int} {Q : (List ByteArray) → Prop} (hm : stylusref16_Split.w a0_ a1_ Q) (h0 : Hp) : ACalls Tryd.prog n_stylusref16_Split [(astr a0_), (.val (.int .u8 a1_))] h0 (Back h0 (fun r => (.isl 1 (r.map AM.encStr))) Q) := by
  refine enter_stylusref16_Split ?_
  unfold stylusref16_Split.w at hm
  have H := AM.Own.nil h0
  simp (maxSteps := 4000000) -implicitDefEqProofs (disch := omega) only [push_cast, Nat.reduceAdd, Nat.reduceLeDiff, Nat.reduceMul, Nat.reduceSub, Nat.reduceLT, Nat.reduceEqDiff, Int.reduceAdd, Int.reduceSub, Int.reduceLE, Int.reduceLT, Int.reduceEq, Int.reduceNe, Int.reduceToNat, Int.reduceNeg, reduceIte, reduceCtorEq, ac_stylusref16_Split]
  refine H.newL (E := AM.encStr) ([(ByteArray.mk #[])] : List ByteArray) rfl rfl (fun b1 h1 H => ?_)
  simp (maxSteps := 4000000) -implicitDefEqProofs (disch := omega) only [push_cast, Nat.reduceAdd, Nat.reduceLeDiff, Nat.reduceMul, Nat.reduceSub, Nat.reduceLT, Nat.reduceEqDiff, Int.reduceAdd, Int.reduceSub, Int.reduceLE, Int.reduceLT, Int.reduceEq, Int.reduceNe, Int.reduceToNat, Int.reduceNeg, reduceIte, reduceCtorEq]
  obtain ⟨inv1, mu1, hi1, hs1⟩ := hm
  replace H := H.perm [0] (by decide)
  refine awp_loop (σ := ((List ByteArray) × Int) × AV × Hp) (fun ⟨⟨a1, a2⟩, x1, h2⟩ => ⟨((((List.replicate 40 AV.any).set 0 (astr a0_)).set 1 (.val (.int .u8 a1_))).set 5 x1).set 6 (aint a2), h2⟩) (fun ⟨⟨a1, a2⟩, x1, h2⟩ => inv1 (a1, a2) ∧ AM.Own h0 h2 [⟨x1, false, 1, a1.map AM.encStr, some (9, 0)⟩]) (fun ⟨⟨a1, a2⟩, x1, h2⟩ => mu1 (a1, a2)) ⟨(([(ByteArray.mk #[])] : List ByteArray), 0), (.osl b1 1 0 1), h1⟩ (Retell.weak (by simp [Weak, push_cast]) (Hp.sub.refl _)) ⟨hi1, H⟩ ?_
  rintro ⟨⟨a1, a2⟩, x1, h2⟩ ⟨hi1, H⟩
  have hm := hs1 _ hi1
  dsimp only at hm H ⊢
  simp (maxSteps := 4000000) -implicitDefEqProofs (disch := omega) only [push_cast, Nat.reduceAdd, Nat.reduceLeDiff, Nat.reduceMul, Nat.reduceSub, Nat.reduceLT, Nat.reduceEqDiff, Int.reduceAdd, Int.reduceSub, Int.reduceLE, Int.reduceLT, Int.reduceEq, Int.reduceNe, Int.reduceToNat, Int.reduceNeg, reduceIte, reduceCtorEq]
  rw [fork_cond]
  refine ⟨fun c1 => ?_, fun c1 => ?_⟩
  · replace hm := ifp hm c1
    simp (maxSteps := 4000000) -implicitDefEqProofs (disch := omega) only [push_cast, Nat.reduceAdd, Nat.reduceLeDiff, Nat.reduceMul, Nat.reduceSub, Nat.reduceLT, Nat.reduceEqDiff, Int.reduceAdd, Int.reduceSub, Int.reduceLE, Int.reduceLT, Int.reduceEq, Int.reduceNe, Int.reduceToNat, Int.reduceNeg, reduceIte, reduceCtorEq, eq_true c1]
    obtain ⟨k1, hm, hk1⟩ := wcut_elim hm
    refine awp_cut (fun s' => ∃ (a3 : List ByteArray) (x2 : AV) (h3 : Hp), Like s'.tm (((((List.replicate 40 none).set 0 (some (astr a0_))).set 1 (some (.val (.int .u8 a1_)))).set 5 (some x2)).set 6 (some (aint a2))) ∧ s'.h = h3 ∧ AM.Own h0 h3 [⟨x2, false, 1, a3.map AM.encStr, some (9, 0)⟩] ∧ k1 a3) ?_ ?_
    · obtain ⟨z1, hm⟩ := hm
      obtain ⟨v1, i1, hm⟩ := hm
      simp (maxSteps := 4000000) -implicitDefEqProofs (disch := omega) only [push_cast, Nat.reduceAdd, Nat.reduceLeDiff, Nat.reduceMul, Nat.reduceSub, Nat.reduceLT, Nat.reduceEqDiff, Int.reduceAdd, Int.reduceSub, Int.reduceLE, Int.reduceLT, Int.reduceEq, Int.reduceNe, Int.reduceToNat, Int.reduceNeg, reduceIte, reduceCtorEq, eq_true c1, eq_true z1, i1]
      rw [fork_cond]
      refine ⟨fun c2 => ?_, fun c2 => ?_⟩
      · replace hm := ifp hm c2
        simp (maxSteps := 4000000) -implicitDefEqProofs (disch := omega) only [push_cast, Nat.reduceAdd, Nat.reduceLeDiff, Nat.reduceMul, Nat.reduceSub, Nat.reduceLT, Nat.reduceEqDiff, Int.reduceAdd, Int.reduceSub, Int.reduceLE, Int.reduceLT, Int.reduceEq, Int.reduceNe, Int.reduceToNat, Int.reduceNeg, reduceIte, reduceCtorEq, eq_true c1, eq_true z1, i1, eq_true c2]
        refine H.newL (E := AM.encStr) ([(ByteArray.mk #[])] : List ByteArray) rfl rfl (fun b2 h4 H => ?_)
        simp (maxSteps := 4000000) -implicitDefEqProofs (disch := omega) only [push_cast, Nat.reduceAdd, Nat.reduceLeDiff, Nat.reduceMul, Nat.reduceSub, Nat.reduceLT, Nat.reduceEqDiff, Int.reduceAdd, Int.reduceSub, Int.reduceLE, Int.reduceLT, Int.reduceEq, Int.reduceNe, Int.reduceToNat, Int.reduceNeg, reduceIte, reduceCtorEq, eq_true c1, eq_true z1, i1, eq_true c2, H.src (e := 9) 1 rfl]
        obtain ⟨w1, hm⟩ := hm
        refine H.appL (E := AM.encStr) 0 ([(ByteArray.mk #[])] : List ByteArray) rfl rfl rfl (by decide) (by decide) w1 (fun x3 h5 H => ?_)
        simp (maxSteps := 4000000) -implicitDefEqProofs (disch := omega) only [push_cast, Nat.reduceAdd, Nat.reduceLeDiff, Nat.reduceMul, Nat.reduceSub, Nat.reduceLT, Nat.reduceEqDiff, Int.reduceAdd, Int.reduceSub, Int.reduceLE, Int.reduceLT, Int.reduceEq, Int.reduceNe, Int.reduceToNat, Int.reduceNeg, reduceIte, reduceCtorEq, eq_true c1, eq_true z1, i1, eq_true c2]
        replace H := H.perm [0] (by decide)
        exact ⟨a1 ++ ([(ByteArray.mk #[])] : List ByteArray), x3, h5, by simp [Like, push_cast], rfl, H, hm⟩
      · replace hm := ifn hm c2
        obtain ⟨w2, hm⟩ := hm
        obtain ⟨w3, hm⟩ := hm
        simp (maxSteps := 4000000) -implicitDefEqProofs (disch := omega) only [push_cast, Nat.reduceAdd, Nat.reduceLeDiff, Nat.reduceMul, Nat.reduceSub, Nat.reduceLT, Nat.reduceEqDiff, Int.reduceAdd, Int.reduceSub, Int.reduceLE, Int.reduceLT, Int.reduceEq, Int.reduceNe, Int.reduceToNat, Int.reduceNeg, reduceIte, reduceCtorEq, eq_true c1, eq_true z1, i1, eq_false c2, wrap_i64 _ w2, wrap_i64 _ w3, H.lenE 0 rfl tab_38, H.lenE 0 rfl tab_38]
        obtain ⟨z2, hm⟩ := hm
        obtain ⟨v2, i2, hm⟩ := hm
        obtain ⟨b3, o1, rfl, qb, qc, qd, qe⟩ := H.row (k := ((a1.length : Int) - 1).toNat) (r := AM.encStr v2) 0 rfl (by rw [List.getElem?_map, i2]; rfl)
        rw [List.length_map] at qe
        have q1 := qb
        have q2 := qc
        have q3 := qd
        have q4 := eq_true qe
        obtain ⟨w4, hm⟩ := hm
        obtain ⟨z3, hm⟩ := hm
        obtain ⟨w5, hm⟩ := hm
        obtain ⟨w6, hm⟩ := hm
        obtain ⟨w7, hm⟩ := hm
        simp (maxSteps := 4000000) -implicitDefEqProofs (disch := omega) only [push_cast, Nat.reduceAdd, Nat.reduceLeDiff, Nat.reduceMul, Nat.reduceSub, Nat.reduceLT, Nat.reduceEqDiff, Int.reduceAdd, Int.reduceSub, Int.reduceLE, Int.reduceLT, Int.reduceEq, Int.reduceNe, Int.reduceToNat, Int.reduceNeg, reduceIte, reduceCtorEq, eq_true c1, eq_true z1, i1, eq_false c2, wrap_i64 _ w2, wrap_i64 _ w3, eq_true z2, q1, q2, q3, q4, wrap_i64 _ w4, eq_true z3, eq_true w5, eq_true w6, eq_true w7]
        refine H.stL 0 (v2 ++ (a0_.extract a2.toNat ((a2 + 1).toNat))) rfl i2 rfl rfl rfl (Nat.le_of_ble_eq_true rfl) rfl (fun h6 H => ?_)
        simp (maxSteps := 4000000) -implicitDefEqProofs (disch := omega) only [push_cast, Nat.reduceAdd, Nat.reduceLeDiff, Nat.reduceMul, Nat.reduceSub, Nat.reduceLT, Nat.reduceEqDiff, Int.reduceAdd, Int.reduceSub, Int.reduceLE, Int.reduceLT, Int.reduceEq, Int.reduceNe, Int.reduceToNat, Int.reduceNeg, reduceIte, reduceCtorEq, eq_true c1, eq_true z1, i1, eq_false c2, wrap_i64 _ w2, wrap_i64 _ w3, eq_true z2, q1, q2, q3, q4, wrap_i64 _ w4, eq_true z3, eq_true w5, eq_true w6, eq_true w7]
        replace H := H.perm [0] (by decide)
        exact ⟨a1.set (((a1.length : Int) - 1).toNat) (v2 ++ (a0_.extract a2.toNat ((a2 + 1).toNat))), (.osl b3 1 0 (a1.map AM.encStr).length), h6, by simp [Like, push_cast], rfl, H, hm⟩
    · rintro ⟨tm, h3⟩ ⟨a3, x2, _, hL, rfl, H, hm⟩
      dsimp only at hL H
      obtain ⟨D, rfl⟩ := hL.fill 0
      replace hm := hk1 _ hm
      obtain ⟨w8, hm⟩ := hm
      simp (maxSteps := 4000000) -implicitDefEqProofs (disch := omega) only [push_cast, Nat.reduceAdd, Nat.reduceLeDiff, Nat.reduceMul, Nat.reduceSub, Nat.reduceLT, Nat.reduceEqDiff, Int.reduceAdd, Int.reduceSub, Int.reduceLE, Int.reduceLT, Int.reduceEq, Int.reduceNe, Int.reduceToNat, Int.reduceNeg, reduceIte, reduceCtorEq, eq_true c1, wrap_i64 _ w8]
      replace H := H.perm [0] (by decide)
      exact ⟨⟨(a3, a2 + 1), x2, h3⟩, hm.2, ⟨hm.1, H⟩, Retell.weak (by simp [Weak, push_cast]) (Hp.sub.refl _)⟩
  · replace hm := ifn hm c1
    simp (maxSteps := 4000000) -implicitDefEqProofs (disch := omega) only [push_cast, Nat.reduceAdd, Nat.reduceLeDiff, Nat.reduceMul, Nat.reduceSub, Nat.reduceLT, Nat.reduceEqDiff, Int.reduceAdd, Int.reduceSub, Int.reduceLE, Int.reduceLT, Int.reduceEq, Int.reduceNe, Int.reduceToNat, Int.reduceNeg, reduceIte, reduceCtorEq, eq_false c1]
    obtain ⟨h7, s1, H⟩ := H.freeze 0 rfl
    exact retQ_back (.inl rfl) a1 _ rfl s1 H.sub hm
end Go.Proofs.YtlnjajfagildnaaDoor
