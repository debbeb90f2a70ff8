/- Functions of the program: code, what is asked for their answers, the walk (printed by pr.py). -/
import Derived.Test.YtggcmnoacplbkaaDoorDat
namespace Go.Proofs.YtggcmnoacplbkaaDoor
open Go Go.Proofs.YtggcmnoacplbkaaDoor.AM
set_option maxRecDepth 100000
set_option linter.unusedSimpArgs false
set_option linter.unusedVariables false
set_option maxHeartbeats 4000000
/-! internal/stringslite.Cut -/
abbrev n_internal_stringslite_Cut : Nat := 37
noncomputable def code_internal_stringslite_Cut : Code := match Tryd.f37.body with | some c => c | none => .skip
def ann_internal_stringslite_Cut : Nat → Ann
  | 3 => { pure := [], plan := (.op 0 (.op 1 (.op 2 (.op 3 (.op 4 (.op 5 (.op 6 (.op 7 (.op 8 (.op 9 (.op 10 (.op 11 .done)))))))))))), ghost := false, post := false }
  | _ => {}
noncomputable def ac_internal_stringslite_Cut : AC :=
  (.seq (.reg [⟨some 4, (Op.assign (Operand.const (Value.string (ByteArray.mk #[])))), none, false⟩, ⟨some 5, (Op.assign (Operand.const (Value.string (ByteArray.mk #[])))), none, false⟩, ⟨some 6, (Op.assign (Operand.const (Value.bool false))), none, false⟩]) (.seq (.seq (.reg [⟨some 8, (Op.move (Operand.tmp 0)), none, false⟩, ⟨some 9, (Op.move (Operand.tmp 1)), none, false⟩, ⟨some 10, (Op.call (Call.mk (Callee.value (Operand.func 38)) #[(Operand.tmp 8), (Operand.tmp 9)] #[9, 9])), none, false⟩, ⟨some 7, (Op.assign (Operand.tmp 10)), none, false⟩]) (.seq (.reg [⟨some 11, (Op.move (Operand.tmp 7)), none, false⟩, ⟨some 12, (Op.binOp BinOp.geq 3 (Operand.tmp 11) (Operand.const (Value.int IntKind.i64 0)) 3), none, false⟩]) (.cond (Operand.tmp 12) (.seq (.draw [⟨some 13, (Op.move (Operand.tmp 0)), none, false⟩, ⟨some 14, (Op.move (Operand.tmp 7)), none, false⟩, ⟨some 15, (Op.slice 9 (Operand.tmp 13) none (some (Operand.tmp 14)) none), none, false⟩, ⟨some 16, (Op.move (Operand.tmp 0)), none, false⟩, ⟨some 17, (Op.move (Operand.tmp 7)), none, false⟩, ⟨some 18, (Op.move (Operand.tmp 1)), none, false⟩, ⟨some 19, (Op.call (Call.mk (Callee.builtin Builtin.len) #[(Operand.tmp 18)] #[9])), none, false⟩, ⟨some 20, (Op.binOp BinOp.add 3 (Operand.tmp 17) (Operand.tmp 19) 3), none, false⟩, ⟨some 21, (Op.slice 9 (Operand.tmp 16) (some (Operand.tmp 20)) none none), none, false⟩, ⟨some 4, (Op.assign (Operand.tmp 15)), none, false⟩, ⟨some 5, (Op.assign (Operand.tmp 21)), none, false⟩, ⟨some 6, (Op.assign (Operand.const (Value.bool true))), none, false⟩] (.op 0 (.op 1 (.op 2 (.op 3 (.op 4 (.op 5 (.op 6 (.op 7 (.op 8 (.op 9 (.op 10 (.op 11 .done))))))))))))) .ret) .skip))) (.seq (.reg [⟨some 22, (Op.move (Operand.tmp 0)), none, false⟩, ⟨some 4, (Op.assign (Operand.tmp 22)), none, false⟩, ⟨some 5, (Op.assign (Operand.const (Value.string (ByteArray.mk #[])))), none, false⟩, ⟨some 6, (Op.assign (Operand.const (Value.bool false))), none, false⟩]) .ret)))
theorem body_internal_stringslite_Cut : Tryd.f37.body = some code_internal_stringslite_Cut := by kernel_rfl
theorem slim_internal_stringslite_Cut : slim ann_internal_stringslite_Cut code_internal_stringslite_Cut = some ac_internal_stringslite_Cut := by kernel_rfl
theorem name_internal_stringslite_Cut : (Tryd.f37.name == "runtime.NumGoroutine") = false := by kernel_rfl
theorem enter_internal_stringslite_Cut {args : List AV} {h : Hp} {Q : AE → Hp → Prop} (H : awp Tryd.prog tab ac_internal_stringslite_Cut (retQ tab [(ResultVar.tmp 4), (ResultVar.tmp 5), (ResultVar.tmp 6)] Q) ⟨args ++ List.replicate (23 - args.length) .any, h⟩) : ACalls Tryd.prog 37 args h Q :=
  acalls_of tab_ok mixed Tryd.func37 body_internal_stringslite_Cut name_internal_stringslite_Cut slim_internal_stringslite_Cut rfl Tryd.ntmps37 H
/-- internal/stringslite.Cut -/
def internal_stringslite_Cut.w (a0_ : ByteArray) (a1_ : ByteArray) (Q : (ByteArray × ByteArray × Bool) → Prop) : Prop :=
  internal_stringslite_Index.w a0_ a1_ (fun r1 =>
    if 0 ≤ r1 then
      (0 ≤ r1) ∧
      (r1.toNat ≤ a0_.size) ∧
      (I64 (r1 + (a1_.size : Int))) ∧
      (0 ≤ r1 + (a1_.size : Int)) ∧
      ((r1 + (a1_.size : Int)).toNat ≤ a0_.size) ∧
      Q (a0_.extract 0 r1.toNat, a0_.extract (r1 + (a1_.size : Int)).toNat a0_.size, true)
    else
      Q (a0_, (ByteArray.mk #[]), false))
theorem internal_stringslite_Cut.ok {a0_ : ByteArray} {a1_ : ByteArray} {Q : (ByteArray × ByteArray × Bool) → Prop} (hm : internal_stringslite_Cut.w a0_ a1_ Q) (h0 : Hp) : ACalls Tryd.prog n_internal_stringslite_Cut [(astr a0_), (astr a1_)] h0 (Back h0 (fun r => .tup [(astr r.1), (astr r.2.1), (abool r.2.2)]) Q) := by
  refine enter_internal_stringslite_Cut ?_
  unfold internal_stringslite_Cut.w at hm
  have H := AM.Own.nil h0
  simp (maxSteps := 4000000) -implicitDefEqProofs (disch := omega) only [push_cast, Nat.reduceAdd, Nat.reduceLeDiff, Nat.reduceMul, Nat.reduceSub, Nat.reduceLT, Nat.reduceEqDiff, Int.reduceAdd, Int.reduceSub, Int.reduceLE, Int.reduceLT, Int.reduceEq, Int.reduceNe, Int.reduceToNat, Int.reduceNeg, reduceIte, reduceCtorEq, ac_internal_stringslite_Cut]
  refine calls_w (fun h => internal_stringslite_Index.ok hm h) (fun r1 hm => ?_)
  simp (maxSteps := 4000000) -implicitDefEqProofs (disch := omega) only [push_cast, Nat.reduceAdd, Nat.reduceLeDiff, Nat.reduceMul, Nat.reduceSub, Nat.reduceLT, Nat.reduceEqDiff, Int.reduceAdd, Int.reduceSub, Int.reduceLE, Int.reduceLT, Int.reduceEq, Int.reduceNe, Int.reduceToNat, Int.reduceNeg, reduceIte, reduceCtorEq]
  rw [fork_cond]
  refine ⟨fun c1 => ?_, fun c1 => ?_⟩
  · replace hm := ifp hm c1
    obtain ⟨z1, hm⟩ := hm
    obtain ⟨w1, hm⟩ := hm
    obtain ⟨w2, hm⟩ := hm
    obtain ⟨z2, hm⟩ := hm
    obtain ⟨w3, hm⟩ := hm
    simp (maxSteps := 4000000) -implicitDefEqProofs (disch := omega) only [push_cast, Nat.reduceAdd, Nat.reduceLeDiff, Nat.reduceMul, Nat.reduceSub, Nat.reduceLT, Nat.reduceEqDiff, Int.reduceAdd, Int.reduceSub, Int.reduceLE, Int.reduceLT, Int.reduceEq, Int.reduceNe, Int.reduceToNat, Int.reduceNeg, reduceIte, reduceCtorEq, eq_true c1, eq_true z1, eq_true w1, wrap_i64 _ w2, eq_true z2, eq_true w3]
    exact retQ_back (.inl rfl) (a0_.extract 0 r1.toNat, a0_.extract (r1 + (a1_.size : Int)).toNat a0_.size, true) _ rfl (Shift.refl _ _) H.sub hm
  · replace hm := ifn hm c1
    simp (maxSteps := 4000000) -implicitDefEqProofs (disch := omega) only [push_cast, Nat.reduceAdd, Nat.reduceLeDiff, Nat.reduceMul, Nat.reduceSub, Nat.reduceLT, Nat.reduceEqDiff, Int.reduceAdd, Int.reduceSub, Int.reduceLE, Int.reduceLT, Int.reduceEq, Int.reduceNe, Int.reduceToNat, Int.reduceNeg, reduceIte, reduceCtorEq, eq_false c1]
    exact retQ_back (.inl rfl) (a0_, (ByteArray.mk #[]), false) _ rfl (Shift.refl _ _) H.sub hm
/-! strings.Cut -/
abbrev n_strings_Cut : Nat := 30
noncomputable def code_strings_Cut : Code := match Tryd.f30.body with | some c => c | none => .skip
def ann_strings_Cut : Nat → Ann
  | _ => {}
noncomputable def ac_strings_Cut : AC :=
  (.seq (.reg [⟨some 4, (Op.assign (Operand.const (Value.string (ByteArray.mk #[])))), none, false⟩, ⟨some 5, (Op.assign (Operand.const (Value.string (ByteArray.mk #[])))), none, false⟩, ⟨some 6, (Op.assign (Operand.const (Value.bool false))), none, false⟩]) (.seq (.reg [⟨some 7, (Op.move (Operand.tmp 0)), none, false⟩, ⟨some 8, (Op.move (Operand.tmp 1)), none, false⟩, ⟨some 9, (Op.call (Call.mk (Callee.value (Operand.func 37)) #[(Operand.tmp 7), (Operand.tmp 8)] #[9, 9])), none, false⟩, ⟨some 10, (Op.extract (Operand.tmp 9) 0), none, false⟩, ⟨some 11, (Op.extract (Operand.tmp 9) 1), none, false⟩, ⟨some 12, (Op.extract (Operand.tmp 9) 2), none, false⟩, ⟨some 4, (Op.assign (Operand.tmp 10)), none, false⟩, ⟨some 5, (Op.assign (Operand.tmp 11)), none, false⟩, ⟨some 6, (Op.assign (Operand.tmp 12)), none, false⟩]) .ret))
theorem body_strings_Cut : Tryd.f30.body = some code_strings_Cut := by kernel_rfl
theorem slim_strings_Cut : slim ann_strings_Cut code_strings_Cut = some ac_strings_Cut := by kernel_rfl
theorem name_strings_Cut : (Tryd.f30.name == "runtime.NumGoroutine") = false := by kernel_rfl
theorem enter_strings_Cut {args : List AV} {h : Hp} {Q : AE → Hp → Prop} (H : awp Tryd.prog tab ac_strings_Cut (retQ tab [(ResultVar.tmp 4), (ResultVar.tmp 5), (ResultVar.tmp 6)] Q) ⟨args ++ List.replicate (13 - args.length) .any, h⟩) : ACalls Tryd.prog 30 args h Q :=
  acalls_of tab_ok mixed Tryd.func30 body_strings_Cut name_strings_Cut slim_strings_Cut rfl Tryd.ntmps30 H
/-- strings.Cut -/
def strings_Cut.w (a0_ : ByteArray) (a1_ : ByteArray) (Q : (ByteArray × ByteArray × Bool) → Prop) : Prop :=
  internal_stringslite_Cut.w a0_ a1_ (fun r1 =>
    Q (r1.1, r1.2.1, r1.2.2))
theorem strings_Cut.ok {a0_ : ByteArray} {a1_ : ByteArray} {Q : (ByteArray × ByteArray × Bool) → Prop} (hm : strings_Cut.w a0_ a1_ Q) (h0 : Hp) : ACalls Tryd.prog n_strings_Cut [(astr a0_), (astr a1_)] h0 (Back h0 (fun r => .tup [(astr r.1), (astr r.2.1), (abool r.2.2)]) Q) := by
  refine enter_strings_Cut ?_
  unfold strings_Cut.w at hm
  have H := AM.Own.nil h0
  simp (maxSteps := 4000000) -implicitDefEqProofs (disch := omega) only [push_cast, Nat.reduceAdd, Nat.reduceLeDiff, Nat.reduceMul, Nat.reduceSub, Nat.reduceLT, Nat.reduceEqDiff, Int.reduceAdd, Int.reduceSub, Int.reduceLE, Int.reduceLT, Int.reduceEq, Int.reduceNe, Int.reduceToNat, Int.reduceNeg, reduceIte, reduceCtorEq, ac_strings_Cut]
  refine calls_w (fun h => internal_stringslite_Cut.ok hm h) (fun r1 hm => ?_)
  simp (maxSteps := 4000000) -implicitDefEqProofs (disch := omega) only [push_cast, Nat.reduceAdd, Nat.reduceLeDiff, Nat.reduceMul, Nat.reduceSub, Nat.reduceLT, Nat.reduceEqDiff, Int.reduceAdd, Int.reduceSub, Int.reduceLE, Int.reduceLT, Int.reduceEq, Int.reduceNe, Int.reduceToNat, Int.reduceNeg, reduceIte, reduceCtorEq]
  exact retQ_back (.inl rfl) (r1.1, r1.2.1, r1.2.2) _ rfl (Shift.refl _ _) H.sub hm
/-! internal/stringslite.HasPrefix -/
abbrev n_internal_stringslite_HasPrefix : Nat := 60
noncomputable def code_internal_stringslite_HasPrefix : Code := match Tryd.f60.body with | some c => c | none => .skip
def ann_internal_stringslite_HasPrefix : Nat → Ann
  | _ => {}
noncomputable def ac_internal_stringslite_HasPrefix : AC :=
  (.seq (.reg [⟨some 4, (Op.assign (Operand.const (Value.bool false))), none, false⟩]) (.seq (.reg [⟨some 5, (Op.move (Operand.tmp 0)), none, false⟩, ⟨some 6, (Op.call (Call.mk (Callee.builtin Builtin.len) #[(Operand.tmp 5)] #[9])), none, false⟩, ⟨some 7, (Op.move (Operand.tmp 1)), none, false⟩, ⟨some 8, (Op.call (Call.mk (Callee.builtin Builtin.len) #[(Operand.tmp 7)] #[9])), none, false⟩, ⟨some 9, (Op.binOp BinOp.geq 3 (Operand.tmp 6) (Operand.tmp 8) 3), none, false⟩, ⟨some 10, (Op.move (Operand.tmp 9)), none, false⟩, ⟨some 11, (Op.move (Operand.tmp 0)), (some (some 10, true)), false⟩, ⟨some 12, (Op.move (Operand.tmp 1)), (some (some 10, true)), false⟩, ⟨some 13, (Op.call (Call.mk (Callee.builtin Builtin.len) #[(Operand.tmp 12)] #[9])), (some (some 10, true)), false⟩, ⟨some 14, (Op.slice 9 (Operand.tmp 11) none (some (Operand.tmp 13)) none), (some (some 10, true)), false⟩, ⟨some 15, (Op.move (Operand.tmp 1)), (some (some 10, true)), false⟩, ⟨some 16, (Op.binOp BinOp.eql 9 (Operand.tmp 14) (Operand.tmp 15) 9), (some (some 10, true)), false⟩, ⟨some 17, (Op.pick (Operand.tmp 10) (Operand.tmp 16) (Operand.const (Value.bool false))), none, false⟩, ⟨some 4, (Op.assign (Operand.tmp 17)), none, false⟩]) .ret))
theorem body_internal_stringslite_HasPrefix : Tryd.f60.body = some code_internal_stringslite_HasPrefix := by kernel_rfl
theorem slim_internal_stringslite_HasPrefix : slim ann_internal_stringslite_HasPrefix code_internal_stringslite_HasPrefix = some ac_internal_stringslite_HasPrefix := by kernel_rfl
theorem name_internal_stringslite_HasPrefix : (Tryd.f60.name == "runtime.NumGoroutine") = false := by kernel_rfl
theorem enter_internal_stringslite_HasPrefix {args : List AV} {h : Hp} {Q : AE → Hp → Prop} (H : awp Tryd.prog tab ac_internal_stringslite_HasPrefix (retQ tab [(ResultVar.tmp 4)] Q) ⟨args ++ List.replicate (18 - args.length) .any, h⟩) : ACalls Tryd.prog 60 args h Q :=
  acalls_of tab_ok mixed Tryd.func60 body_internal_stringslite_HasPrefix name_internal_stringslite_HasPrefix slim_internal_stringslite_HasPrefix rfl Tryd.ntmps60 H
/-- internal/stringslite.HasPrefix -/
def internal_stringslite_HasPrefix.w (a0_ : ByteArray) (a1_ : ByteArray) (Q : Bool → Prop) : Prop :=
  if (a1_.size : Int) ≤ (a0_.size : Int) then
    (a1_.size ≤ a0_.size) ∧
    Q (decide (a0_.extract 0 a1_.size = a1_))
  else
    Q false
theorem internal_stringslite_HasPrefix.ok {a0_ : ByteArray} {a1_ : ByteArray} {Q : Bool → Prop} (hm : internal_stringslite_HasPrefix.w a0_ a1_ Q) (h0 : Hp) : ACalls Tryd.prog n_internal_stringslite_HasPrefix [(astr a0_), (astr a1_)] h0 (Back h0 (fun r => (abool r)) Q) := by
  refine enter_internal_stringslite_HasPrefix ?_
  unfold internal_stringslite_HasPrefix.w at hm
  have H := AM.Own.nil h0
  simp (maxSteps := 4000000) -implicitDefEqProofs (disch := omega) only [push_cast, Nat.reduceAdd, Nat.reduceLeDiff, Nat.reduceMul, Nat.reduceSub, Nat.reduceLT, Nat.reduceEqDiff, Int.reduceAdd, Int.reduceSub, Int.reduceLE, Int.reduceLT, Int.reduceEq, Int.reduceNe, Int.reduceToNat, Int.reduceNeg, reduceIte, reduceCtorEq, ac_internal_stringslite_HasPrefix]
  rw [gfork_cond]
  refine ⟨fun c1 => ?_, fun c1 => ?_⟩
  · replace hm := ifp hm c1
    obtain ⟨w1, hm⟩ := hm
    simp (maxSteps := 4000000) -implicitDefEqProofs (disch := omega) only [push_cast, Nat.reduceAdd, Nat.reduceLeDiff, Nat.reduceMul, Nat.reduceSub, Nat.reduceLT, Nat.reduceEqDiff, Int.reduceAdd, Int.reduceSub, Int.reduceLE, Int.reduceLT, Int.reduceEq, Int.reduceNe, Int.reduceToNat, Int.reduceNeg, reduceIte, reduceCtorEq, eq_true c1, eq_true w1]
    exact retQ_back (.inl rfl) (decide (a0_.extract 0 a1_.size = a1_)) _ rfl (Shift.refl _ _) H.sub hm
  · replace hm := ifn hm c1
    simp (maxSteps := 4000000) -implicitDefEqProofs (disch := omega) only [push_cast, Nat.reduceAdd, Nat.reduceLeDiff, Nat.reduceMul, Nat.reduceSub, Nat.reduceLT, Nat.reduceEqDiff, Int.reduceAdd, Int.reduceSub, Int.reduceLE, Int.reduceLT, Int.reduceEq, Int.reduceNe, Int.reduceToNat, Int.reduceNeg, reduceIte, reduceCtorEq, eq_false c1]
    exact retQ_back (.inl rfl) false _ rfl (Shift.refl _ _) H.sub hm
/-! internal/stringslite.CutPrefix -/
abbrev n_internal_stringslite_CutPrefix : Nat := 45
noncomputable def code_internal_stringslite_CutPrefix : Code := match Tryd.f45.body with | some c => c | none => .skip
def ann_internal_stringslite_CutPrefix : Nat → Ann
  | _ => {}
noncomputable def ac_internal_stringslite_CutPrefix : AC :=
  (.seq (.reg [⟨some 4, (Op.assign (Operand.const (Value.string (ByteArray.mk #[])))), none, false⟩, ⟨some 5, (Op.assign (Operand.const (Value.bool false))), none, false⟩]) (.seq (.seq (.reg [⟨some 6, (Op.move (Operand.tmp 0)), none, false⟩, ⟨some 7, (Op.move (Operand.tmp 1)), none, false⟩, ⟨some 8, (Op.call (Call.mk (Callee.value (Operand.func 60)) #[(Operand.tmp 6), (Operand.tmp 7)] #[9, 9])), none, false⟩, ⟨some 9, (Op.unOp UnOp.not 4 (Operand.tmp 8)), none, false⟩]) (.cond (Operand.tmp 9) (.seq (.reg [⟨some 10, (Op.move (Operand.tmp 0)), none, false⟩, ⟨some 4, (Op.assign (Operand.tmp 10)), none, false⟩, ⟨some 5, (Op.assign (Operand.const (Value.bool false))), none, false⟩]) .ret) .skip)) (.seq (.reg [⟨some 11, (Op.move (Operand.tmp 0)), none, false⟩, ⟨some 12, (Op.move (Operand.tmp 1)), none, false⟩, ⟨some 13, (Op.call (Call.mk (Callee.builtin Builtin.len) #[(Operand.tmp 12)] #[9])), none, false⟩, ⟨some 14, (Op.slice 9 (Operand.tmp 11) (some (Operand.tmp 13)) none none), none, false⟩, ⟨some 4, (Op.assign (Operand.tmp 14)), none, false⟩, ⟨some 5, (Op.assign (Operand.const (Value.bool true))), none, false⟩]) .ret)))
theorem body_internal_stringslite_CutPrefix : Tryd.f45.body = some code_internal_stringslite_CutPrefix := by kernel_rfl
theorem slim_internal_stringslite_CutPrefix : slim ann_internal_stringslite_CutPrefix code_internal_stringslite_CutPrefix = some ac_internal_stringslite_CutPrefix := by kernel_rfl
theorem name_internal_stringslite_CutPrefix : (Tryd.f45.name == "runtime.NumGoroutine") = false := by kernel_rfl
theorem enter_internal_stringslite_CutPrefix {args : List AV} {h : Hp} {Q : AE → Hp → Prop} (H : awp Tryd.prog tab ac_internal_stringslite_CutPrefix (retQ tab [(ResultVar.tmp 4), (ResultVar.tmp 5)] Q) ⟨args ++ List.replicate (15 - args.length) .any, h⟩) : ACalls Tryd.prog 45 args h Q :=
  acalls_of tab_ok mixed Tryd.func45 body_internal_stringslite_CutPrefix name_internal_stringslite_CutPrefix slim_internal_stringslite_CutPrefix rfl Tryd.ntmps45 H
/-- internal/stringslite.CutPrefix -/
def internal_stringslite_CutPrefix.w (a0_ : ByteArray) (a1_ : ByteArray) (Q : (ByteArray × Bool) → Prop) : Prop :=
  internal_stringslite_HasPrefix.w a0_ a1_ (fun r1 =>
    if (!r1) = true then
      Q (a0_, false)
    else
      (a1_.size ≤ a0_.size) ∧
      Q (a0_.extract a1_.size a0_.size, true))
theorem internal_stringslite_CutPrefix.ok {a0_ : ByteArray} {a1_ : ByteArray} {Q : (ByteArray × Bool) → Prop} (hm : internal_stringslite_CutPrefix.w a0_ a1_ Q) (h0 : Hp) : ACalls Tryd.prog n_internal_stringslite_CutPrefix [(astr a0_), (astr a1_)] h0 (Back h0 (fun r => .tup [(astr r.1), (abool r.2)]) Q) := by
  refine enter_internal_stringslite_CutPrefix ?_
  unfold internal_stringslite_CutPrefix.w at hm
  have H := AM.Own.nil h0
  simp (maxSteps := 4000000) -implicitDefEqProofs (disch := omega) only [push_cast, Nat.reduceAdd, Nat.reduceLeDiff, Nat.reduceMul, Nat.reduceSub, Nat.reduceLT, Nat.reduceEqDiff, Int.reduceAdd, Int.reduceSub, Int.reduceLE, Int.reduceLT, Int.reduceEq, Int.reduceNe, Int.reduceToNat, Int.reduceNeg, reduceIte, reduceCtorEq, ac_internal_stringslite_CutPrefix]
  refine calls_w (fun h => internal_stringslite_HasPrefix.ok hm h) (fun r1 hm => ?_)
  simp (maxSteps := 4000000) -implicitDefEqProofs (disch := omega) only [push_cast, Nat.reduceAdd, Nat.reduceLeDiff, Nat.reduceMul, Nat.reduceSub, Nat.reduceLT, Nat.reduceEqDiff, Int.reduceAdd, Int.reduceSub, Int.reduceLE, Int.reduceLT, Int.reduceEq, Int.reduceNe, Int.reduceToNat, Int.reduceNeg, reduceIte, reduceCtorEq]
  rw [fork_bool]
  refine ⟨fun c1 => ?_, fun c1 => ?_⟩
  · replace hm := ifp hm c1
    simp (maxSteps := 4000000) -implicitDefEqProofs (disch := omega) only [push_cast, Nat.reduceAdd, Nat.reduceLeDiff, Nat.reduceMul, Nat.reduceSub, Nat.reduceLT, Nat.reduceEqDiff, Int.reduceAdd, Int.reduceSub, Int.reduceLE, Int.reduceLT, Int.reduceEq, Int.reduceNe, Int.reduceToNat, Int.reduceNeg, reduceIte, reduceCtorEq, c1]
    exact retQ_back (.inl rfl) (a0_, false) _ rfl (Shift.refl _ _) H.sub hm
  · replace hm := ifn hm (by rw [c1]; exact Bool.false_ne_true)
    obtain ⟨w1, hm⟩ := hm
    simp (maxSteps := 4000000) -implicitDefEqProofs (disch := omega) only [push_cast, Nat.reduceAdd, Nat.reduceLeDiff, Nat.reduceMul, Nat.reduceSub, Nat.reduceLT, Nat.reduceEqDiff, Int.reduceAdd, Int.reduceSub, Int.reduceLE, Int.reduceLT, Int.reduceEq, Int.reduceNe, Int.reduceToNat, Int.reduceNeg, reduceIte, reduceCtorEq, c1, eq_true w1]
    exact retQ_back (.inl rfl) (a0_.extract a1_.size a0_.size, true) _ rfl (Shift.refl _ _) H.sub hm
/-! strings.CutPrefix -/
abbrev n_strings_CutPrefix : Nat := 36
noncomputable def code_strings_CutPrefix : Code := match Tryd.f36.body with | some c => c | none => .skip
def ann_strings_CutPrefix : Nat → Ann
  | _ => {}
noncomputable def ac_strings_CutPrefix : AC :=
  (.seq (.reg [⟨some 4, (Op.assign (Operand.const (Value.string (ByteArray.mk #[])))), none, false⟩, ⟨some 5, (Op.assign (Operand.const (Value.bool false))), none, false⟩]) (.seq (.reg [⟨some 6, (Op.move (Operand.tmp 0)), none, false⟩, ⟨some 7, (Op.move (Operand.tmp 1)), none, false⟩, ⟨some 8, (Op.call (Call.mk (Callee.value (Operand.func 45)) #[(Operand.tmp 6), (Operand.tmp 7)] #[9, 9])), none, false⟩, ⟨some 9, (Op.extract (Operand.tmp 8) 0), none, false⟩, ⟨some 10, (Op.extract (Operand.tmp 8) 1), none, false⟩, ⟨some 4, (Op.assign (Operand.tmp 9)), none, false⟩, ⟨some 5, (Op.assign (Operand.tmp 10)), none, false⟩]) .ret))
theorem body_strings_CutPrefix : Tryd.f36.body = some code_strings_CutPrefix := by kernel_rfl
theorem slim_strings_CutPrefix : slim ann_strings_CutPrefix code_strings_CutPrefix = some ac_strings_CutPrefix := by kernel_rfl
theorem name_strings_CutPrefix : (Tryd.f36.name == "runtime.NumGoroutine") = false := by kernel_rfl
theorem enter_strings_CutPrefix {args : List AV} {h : Hp} {Q : AE → Hp → Prop} (H : awp Tryd.prog tab ac_strings_CutPrefix (retQ tab [(ResultVar.tmp 4), (ResultVar.tmp 5)] Q) ⟨args ++ List.replicate (11 - args.length) .any, h⟩) : ACalls Tryd.prog 36 args h Q :=
  acalls_of tab_ok mixed Tryd.func36 body_strings_CutPrefix name_strings_CutPrefix slim_strings_CutPrefix rfl Tryd.ntmps36 H
/-- strings.CutPrefix -/
def strings_CutPrefix.w (a0_ : ByteArray) (a1_ : ByteArray) (Q : (ByteArray × Bool) → Prop) : Prop :=
  internal_stringslite_CutPrefix.w a0_ a1_ (fun r1 =>
    Q (r1.1, r1.2))
theorem strings_CutPrefix.ok {a0_ : ByteArray} {a1_ : ByteArray} {Q : (ByteArray × Bool) → Prop} (hm : strings_CutPrefix.w a0_ a1_ Q) (h0 : Hp) : ACalls Tryd.prog n_strings_CutPrefix [(astr a0_), (astr a1_)] h0 (Back h0 (fun r => .tup [(astr r.1), (abool r.2)]) Q) := by
  refine enter_strings_CutPrefix ?_
  unfold strings_CutPrefix.w at hm
  have H := AM.Own.nil h0
  simp (maxSteps := 4000000) -implicitDefEqProofs (disch := omega) only [push_cast, Nat.reduceAdd, Nat.reduceLeDiff, Nat.reduceMul, Nat.reduceSub, Nat.reduceLT, Nat.reduceEqDiff, Int.reduceAdd, Int.reduceSub, Int.reduceLE, Int.reduceLT, Int.reduceEq, Int.reduceNe, Int.reduceToNat, Int.reduceNeg, reduceIte, reduceCtorEq, ac_strings_CutPrefix]
  refine calls_w (fun h => internal_stringslite_CutPrefix.ok hm h) (fun r1 hm => ?_)
  simp (maxSteps := 4000000) -implicitDefEqProofs (disch := omega) only [push_cast, Nat.reduceAdd, Nat.reduceLeDiff, Nat.reduceMul, Nat.reduceSub, Nat.reduceLT, Nat.reduceEqDiff, Int.reduceAdd, Int.reduceSub, Int.reduceLE, Int.reduceLT, Int.reduceEq, Int.reduceNe, Int.reduceToNat, Int.reduceNeg, reduceIte, reduceCtorEq]
  exact retQ_back (.inl rfl) (r1.1, r1.2) _ rfl (Shift.refl _ _) H.sub hm
/-! (*stylus/patch.reader).next -/
abbrev n_patch_reader_next : Nat := 29
noncomputable def code_patch_reader_next : Code := match Tryd.f29.body with | some c => c | none => .skip
def ann_patch_reader_next : Nat → Ann
  | _ => {}
noncomputable def ac_patch_reader_next_c1 : AC :=
  (.seq (.reg [⟨some 32, (Op.move (Operand.tmp 7)), none, false⟩, ⟨some 33, (Op.unOp UnOp.not 4 (Operand.tmp 32)), none, false⟩, ⟨some 34, (Op.move (Operand.tmp 33)), none, false⟩, ⟨some 35, (Op.move (Operand.tmp 9)), (some (some 34, false)), false⟩, ⟨some 36, (Op.unOp UnOp.not 4 (Operand.tmp 35)), (some (some 34, false)), false⟩, ⟨some 37, (Op.pick (Operand.tmp 34) (Operand.const (Value.bool true)) (Operand.tmp 36)), none, false⟩]) (.cond (Operand.tmp 37) (.reg [⟨some 38, (Op.move (Operand.tmp 0)), none, false⟩, ⟨some 39, (Op.nilCheck (Operand.tmp 38)), none, false⟩, ⟨some 40, (Op.fieldAddr 58 (Operand.tmp 39) 1), none, false⟩, ⟨some 41, (Op.load 3 (Operand.tmp 40)), none, false⟩, ⟨some 42, (Op.build 54 #[(0, (Operand.tmp 41))]), none, false⟩, ⟨some 43, (Op.makeInterface 54 (Operand.tmp 42)), none, false⟩, ⟨none, (Op.panic (Operand.tmp 43)), none, false⟩]) .skip))
noncomputable def ac_patch_reader_next : AC :=
  (.seq (.reg [⟨some 4, (Op.assign (Operand.const (Value.string (ByteArray.mk #[])))), none, false⟩]) (.seq (.reg [⟨some 10, (Op.move (Operand.tmp 0)), none, false⟩, ⟨some 11, (Op.nilCheck (Operand.tmp 10)), none, false⟩, ⟨some 12, (Op.fieldAddr 58 (Operand.tmp 11) 1), none, false⟩, ⟨some 13, (Op.load 3 (Operand.tmp 12)), none, false⟩, ⟨some 14, (Op.binOp BinOp.add 3 (Operand.tmp 13) (Operand.const (Value.int IntKind.i64 1)) 3), none, false⟩, ⟨some 15, (Op.nilCheck (Operand.tmp 10)), none, false⟩, ⟨some 16, (Op.fieldAddr 58 (Operand.tmp 15) 1), none, false⟩, ⟨none, (Op.store 3 (Operand.tmp 16) (Operand.tmp 14)), none, false⟩]) (.seq (.reg [⟨some 18, (Op.move (Operand.tmp 0)), none, false⟩, ⟨some 19, (Op.nilCheck (Operand.tmp 18)), none, false⟩, ⟨some 20, (Op.fieldAddr 58 (Operand.tmp 19) 0), none, false⟩, ⟨some 21, (Op.load 9 (Operand.tmp 20)), none, false⟩, ⟨some 22, (Op.call (Call.mk (Callee.value (Operand.func 30)) #[(Operand.tmp 21), (Operand.const (Value.string (ByteArray.mk #[10])))] #[9, 9])), none, false⟩, ⟨some 17, (Op.move (Operand.tmp 22)), none, false⟩, ⟨some 23, (Op.extract (Operand.tmp 17) 0), none, false⟩, ⟨some 24, (Op.extract (Operand.tmp 17) 1), none, false⟩, ⟨some 25, (Op.extract (Operand.tmp 17) 2), none, false⟩, ⟨some 5, (Op.assign (Operand.tmp 23)), none, false⟩, ⟨some 6, (Op.assign (Operand.tmp 24)), none, false⟩, ⟨some 7, (Op.assign (Operand.tmp 25)), none, false⟩]) (.seq (.reg [⟨some 27, (Op.move (Operand.tmp 5)), none, false⟩, ⟨some 28, (Op.move (Operand.tmp 1)), none, false⟩, ⟨some 29, (Op.call (Call.mk (Callee.value (Operand.func 36)) #[(Operand.tmp 27), (Operand.tmp 28)] #[9, 9])), none, false⟩, ⟨some 26, (Op.move (Operand.tmp 29)), none, false⟩, ⟨some 30, (Op.extract (Operand.tmp 26) 0), none, false⟩, ⟨some 31, (Op.extract (Operand.tmp 26) 1), none, false⟩, ⟨some 8, (Op.assign (Operand.tmp 30)), none, false⟩, ⟨some 9, (Op.assign (Operand.tmp 31)), none, false⟩]) (.seq ac_patch_reader_next_c1 (.seq (.reg [⟨some 44, (Op.move (Operand.tmp 0)), none, false⟩, ⟨some 45, (Op.move (Operand.tmp 6)), none, false⟩, ⟨some 46, (Op.nilCheck (Operand.tmp 44)), none, false⟩, ⟨some 47, (Op.fieldAddr 58 (Operand.tmp 46) 0), none, false⟩, ⟨none, (Op.store 9 (Operand.tmp 47) (Operand.tmp 45)), none, false⟩]) (.seq (.reg [⟨some 48, (Op.move (Operand.tmp 8)), none, false⟩, ⟨some 4, (Op.assign (Operand.tmp 48)), none, false⟩]) .ret)))))))
theorem body_patch_reader_next : Tryd.f29.body = some code_patch_reader_next := by kernel_rfl
theorem slim_patch_reader_next : slim ann_patch_reader_next code_patch_reader_next = some ac_patch_reader_next := by kernel_rfl
theorem name_patch_reader_next : (Tryd.f29.name == "runtime.NumGoroutine") = false := by kernel_rfl
theorem enter_patch_reader_next {args : List AV} {h : Hp} {Q : AE → Hp → Prop} (H : awp Tryd.prog tab ac_patch_reader_next (retQ tab [(ResultVar.tmp 4)] Q) ⟨args ++ List.replicate (49 - args.length) .any, h⟩) : ACalls Tryd.prog 29 args h Q :=
  acalls_of tab_ok mixed Tryd.func29 body_patch_reader_next name_patch_reader_next slim_patch_reader_next rfl Tryd.ntmps29 H
/-- (*stylus/patch.reader).next, with what it is handed -/
def patch_reader_next_i0.w (a0_ : ByteArray) (c0_ : PatchReader) (Q : ByteArray → PatchReader → Prop) (X : AV → Prop) : Prop :=
  (I64 (c0_.line + 1)) ∧
  strings_Cut.w c0_.rest (ByteArray.mk #[10]) (fun r1 =>
    strings_CutPrefix.w r1.1 a0_ (fun r2 =>
      wcut (α := Bool) (fun k1 =>
        if (!r1.2.2) = true then
          k1 true
        else
          k1 (!r2.2)) (fun a1 =>
        if a1 = true then
          X (.ifc 54 (.agg [(aint (c0_.line + 1))]))
        else
          Q r2.1 (⟨r1.2.1, c0_.line + 1⟩ : PatchReader))))
theorem patch_reader_next_i0.ok {a0_ : ByteArray} {c0_ : PatchReader} {Q : ByteArray → PatchReader → Prop} {X : AV → Prop} (hm : patch_reader_next_i0.w a0_ c0_ Q X) {h0 h : Hp} {b0_ : Nat} (H : AM.Own h0 h [⟨(.optr b0_ 2 0 0), true, 2, [(PatchReader.enc c0_)], some (58, 2)⟩]) : ACalls Tryd.prog n_patch_reader_next [(.optr b0_ 2 0 0), (astr a0_)] h (PanOr h0 X (fun e h' => ∃ (r : ByteArray) (c0' : PatchReader), e = .ret ((fun r => (astr r)) r) ∧ AM.Own h0 h' [⟨(.optr b0_ 2 0 0), true, 2, [(PatchReader.enc c0')], some (58, 2)⟩] ∧ Q r c0')) := by
  refine enter_patch_reader_next ?_
  unfold patch_reader_next_i0.w at hm
  obtain ⟨w1, hm⟩ := hm
  have e0 := H.getP 0 rfl
  simp (maxSteps := 4000000) -implicitDefEqProofs (disch := omega) only [push_cast, Nat.reduceAdd, Nat.reduceLeDiff, Nat.reduceMul, Nat.reduceSub, Nat.reduceLT, Nat.reduceEqDiff, Int.reduceAdd, Int.reduceSub, Int.reduceLE, Int.reduceLT, Int.reduceEq, Int.reduceNe, Int.reduceToNat, Int.reduceNeg, reduceIte, reduceCtorEq, ac_patch_reader_next, wrap_i64 _ w1, e0]
  refine H.stP 0 [(astr c0_.rest), (aint (c0_.line + 1))] rfl rfl rfl rfl (Nat.le_of_ble_eq_true rfl) rfl (fun h1 H => ?_)
  have e0 := H.getP 0 rfl
  simp (maxSteps := 4000000) -implicitDefEqProofs (disch := omega) only [push_cast, Nat.reduceAdd, Nat.reduceLeDiff, Nat.reduceMul, Nat.reduceSub, Nat.reduceLT, Nat.reduceEqDiff, Int.reduceAdd, Int.reduceSub, Int.reduceLE, Int.reduceLT, Int.reduceEq, Int.reduceNe, Int.reduceToNat, Int.reduceNeg, reduceIte, reduceCtorEq, wrap_i64 _ w1, e0]
  refine calls_w (fun h => strings_Cut.ok hm h) (fun r1 hm => ?_)
  have e0 := H.getP 0 rfl
  simp (maxSteps := 4000000) -implicitDefEqProofs (disch := omega) only [push_cast, Nat.reduceAdd, Nat.reduceLeDiff, Nat.reduceMul, Nat.reduceSub, Nat.reduceLT, Nat.reduceEqDiff, Int.reduceAdd, Int.reduceSub, Int.reduceLE, Int.reduceLT, Int.reduceEq, Int.reduceNe, Int.reduceToNat, Int.reduceNeg, reduceIte, reduceCtorEq, wrap_i64 _ w1, e0]
  refine calls_w (fun h => strings_CutPrefix.ok hm h) (fun r2 hm => ?_)
  have e0 := H.getP 0 rfl
  simp (maxSteps := 4000000) -implicitDefEqProofs (disch := omega) only [push_cast, Nat.reduceAdd, Nat.reduceLeDiff, Nat.reduceMul, Nat.reduceSub, Nat.reduceLT, Nat.reduceEqDiff, Int.reduceAdd, Int.reduceSub, Int.reduceLE, Int.reduceLT, Int.reduceEq, Int.reduceNe, Int.reduceToNat, Int.reduceNeg, reduceIte, reduceCtorEq, wrap_i64 _ w1, e0]
  obtain ⟨k1, hm, hk1⟩ := wcut_elim hm
  refine awp_cut (fun s' => ∃ (a1 : Bool) (h2 : Hp), Like s'.tm (((((List.replicate 49 none).set 0 (some (.optr b0_ 2 0 0))).set 6 (some (astr r1.2.1))).set 8 (some (astr r2.1))).set 37 (some (abool a1))) ∧ s'.h = h2 ∧ AM.Own h0 h2 [⟨(.optr b0_ 2 0 0), true, 2, [[(astr c0_.rest), (aint (c0_.line + 1))]], some (58, 2)⟩] ∧ k1 a1) ?_ ?_
  · have e0 := H.getP 0 rfl
    simp (maxSteps := 4000000) -implicitDefEqProofs (disch := omega) only [push_cast, Nat.reduceAdd, Nat.reduceLeDiff, Nat.reduceMul, Nat.reduceSub, Nat.reduceLT, Nat.reduceEqDiff, Int.reduceAdd, Int.reduceSub, Int.reduceLE, Int.reduceLT, Int.reduceEq, Int.reduceNe, Int.reduceToNat, Int.reduceNeg, reduceIte, reduceCtorEq, wrap_i64 _ w1, e0]
    rw [gfork_bool']
    refine ⟨fun c1 => ?_, fun c1 => ?_⟩
    · replace hm := ifp hm c1
      have e0 := H.getP 0 rfl
      simp (maxSteps := 4000000) -implicitDefEqProofs (disch := omega) only [push_cast, Nat.reduceAdd, Nat.reduceLeDiff, Nat.reduceMul, Nat.reduceSub, Nat.reduceLT, Nat.reduceEqDiff, Int.reduceAdd, Int.reduceSub, Int.reduceLE, Int.reduceLT, Int.reduceEq, Int.reduceNe, Int.reduceToNat, Int.reduceNeg, reduceIte, reduceCtorEq, wrap_i64 _ w1, c1, e0]
      replace H := H.perm [0] (by decide)
      exact ⟨true, h1, by simp [Like, push_cast], rfl, H, hm⟩
    · replace hm := ifn hm (by rw [c1]; exact Bool.false_ne_true)
      have e0 := H.getP 0 rfl
      simp (maxSteps := 4000000) -implicitDefEqProofs (disch := omega) only [push_cast, Nat.reduceAdd, Nat.reduceLeDiff, Nat.reduceMul, Nat.reduceSub, Nat.reduceLT, Nat.reduceEqDiff, Int.reduceAdd, Int.reduceSub, Int.reduceLE, Int.reduceLT, Int.reduceEq, Int.reduceNe, Int.reduceToNat, Int.reduceNeg, reduceIte, reduceCtorEq, wrap_i64 _ w1, c1, e0]
      replace H := H.perm [0] (by decide)
      exact ⟨!r2.2, h1, by simp [Like, push_cast], rfl, H, hm⟩
  · rintro ⟨tm, h2⟩ ⟨a1, _, hL, rfl, H, hm⟩
    dsimp only at hL H
    obtain ⟨D, rfl⟩ := hL.fill 0
    replace hm := hk1 _ hm
    have e0 := H.getP 0 rfl
    simp (maxSteps := 4000000) -implicitDefEqProofs (disch := omega) only [push_cast, Nat.reduceAdd, Nat.reduceLeDiff, Nat.reduceMul, Nat.reduceSub, Nat.reduceLT, Nat.reduceEqDiff, Int.reduceAdd, Int.reduceSub, Int.reduceLE, Int.reduceLT, Int.reduceEq, Int.reduceNe, Int.reduceToNat, Int.reduceNeg, reduceIte, reduceCtorEq, wrap_i64 _ w1, e0]
    rw [fork_bool]
    refine ⟨fun c2 => ?_, fun c2 => ?_⟩
    · replace hm := ifp hm c2
      have e0 := H.getP 0 rfl
      simp (maxSteps := 4000000) -implicitDefEqProofs (disch := omega) only [push_cast, Nat.reduceAdd, Nat.reduceLeDiff, Nat.reduceMul, Nat.reduceSub, Nat.reduceLT, Nat.reduceEqDiff, Int.reduceAdd, Int.reduceSub, Int.reduceLE, Int.reduceLT, Int.reduceEq, Int.reduceNe, Int.reduceToNat, Int.reduceNeg, reduceIte, reduceCtorEq, wrap_i64 _ w1, c2, e0]
      exact retQ_pan H.sub hm
    · replace hm := ifn hm (by rw [c2]; exact Bool.false_ne_true)
      have e0 := H.getP 0 rfl
      simp (maxSteps := 4000000) -implicitDefEqProofs (disch := omega) only [push_cast, Nat.reduceAdd, Nat.reduceLeDiff, Nat.reduceMul, Nat.reduceSub, Nat.reduceLT, Nat.reduceEqDiff, Int.reduceAdd, Int.reduceSub, Int.reduceLE, Int.reduceLT, Int.reduceEq, Int.reduceNe, Int.reduceToNat, Int.reduceNeg, reduceIte, reduceCtorEq, wrap_i64 _ w1, c2, e0]
      refine H.stP 0 [(astr r1.2.1), (aint (c0_.line + 1))] rfl rfl rfl rfl (Nat.le_of_ble_eq_true rfl) rfl (fun h3 H => ?_)
      have e0 := H.getP 0 rfl
      simp (maxSteps := 4000000) -implicitDefEqProofs (disch := omega) only [push_cast, Nat.reduceAdd, Nat.reduceLeDiff, Nat.reduceMul, Nat.reduceSub, Nat.reduceLT, Nat.reduceEqDiff, Int.reduceAdd, Int.reduceSub, Int.reduceLE, Int.reduceLT, Int.reduceEq, Int.reduceNe, Int.reduceToNat, Int.reduceNeg, reduceIte, reduceCtorEq, wrap_i64 _ w1, c2, e0]
      have e0 := H.getP 0 rfl
      replace H := H.perm [0] (by decide)
      refine retQ_or (.inl rfl) ?_
      exact retQ_o (.inl rfl) (x := (astr r2.1)) rfl (Shift.refl _ _) ⟨r2.1, (⟨r1.2.1, c0_.line + 1⟩ : PatchReader), rfl, H, hm⟩
/-! (*stylus/patch.reader).number -/
abbrev n_patch_reader_number : Nat := 28
noncomputable def code_patch_reader_number : Code := match Tryd.f28.body with | some c => c | none => .skip
def ann_patch_reader_number : Nat → Ann
  | _ => {}
noncomputable def ac_patch_reader_number_c1 : AC :=
  (.seq (.reg [⟨some 16, (Op.move (Operand.tmp 10)), none, false⟩, ⟨some 17, (Op.binOp BinOp.neq 48 (Operand.tmp 16) (Operand.const Value.nilIface) 48), none, false⟩, ⟨some 18, (Op.move (Operand.tmp 17)), none, false⟩, ⟨some 19, (Op.move (Operand.tmp 9)), (some (some 18, false)), false⟩, ⟨some 20, (Op.call (Call.mk (Callee.value (Operand.func 15)) #[(Operand.tmp 19)] #[3])), (some (some 18, false)), false⟩, ⟨some 21, (Op.move (Operand.tmp 1)), (some (some 18, false)), false⟩, ⟨some 22, (Op.binOp BinOp.neq 9 (Operand.tmp 20) (Operand.tmp 21) 9), (some (some 18, false)), false⟩, ⟨some 23, (Op.pick (Operand.tmp 18) (Operand.const (Value.bool true)) (Operand.tmp 22)), none, false⟩, ⟨some 24, (Op.move (Operand.tmp 23)), none, false⟩, ⟨some 25, (Op.move (Operand.tmp 9)), (some (some 24, false)), false⟩, ⟨some 26, (Op.move (Operand.tmp 2)), (some (some 24, false)), false⟩, ⟨some 27, (Op.binOp BinOp.lss 3 (Operand.tmp 25) (Operand.tmp 26) 3), (some (some 24, false)), false⟩, ⟨some 28, (Op.pick (Operand.tmp 24) (Operand.const (Value.bool true)) (Operand.tmp 27)), none, false⟩, ⟨some 29, (Op.move (Operand.tmp 28)), none, false⟩, ⟨some 30, (Op.move (Operand.tmp 9)), (some (some 29, false)), false⟩, ⟨some 31, (Op.move (Operand.tmp 3)), (some (some 29, false)), false⟩, ⟨some 32, (Op.binOp BinOp.gtr 3 (Operand.tmp 30) (Operand.tmp 31) 3), (some (some 29, false)), false⟩, ⟨some 33, (Op.pick (Operand.tmp 29) (Operand.const (Value.bool true)) (Operand.tmp 32)), none, false⟩]) (.cond (Operand.tmp 33) (.reg [⟨some 34, (Op.move (Operand.tmp 0)), none, false⟩, ⟨some 35, (Op.nilCheck (Operand.tmp 34)), none, false⟩, ⟨some 36, (Op.fieldAddr 58 (Operand.tmp 35) 1), none, false⟩, ⟨some 37, (Op.load 3 (Operand.tmp 36)), none, false⟩, ⟨some 38, (Op.build 54 #[(0, (Operand.tmp 37))]), none, false⟩, ⟨some 39, (Op.makeInterface 54 (Operand.tmp 38)), none, false⟩, ⟨none, (Op.panic (Operand.tmp 39)), none, false⟩]) .skip))
noncomputable def ac_patch_reader_number : AC :=
  (.seq (.reg [⟨some 8, (Op.assign (Operand.const (Value.int IntKind.i64 0))), none, false⟩]) (.seq (.reg [⟨some 12, (Op.move (Operand.tmp 1)), none, false⟩, ⟨some 13, (Op.call (Call.mk (Callee.value (Operand.func 35)) #[(Operand.tmp 12)] #[9])), none, false⟩, ⟨some 11, (Op.move (Operand.tmp 13)), none, false⟩, ⟨some 14, (Op.extract (Operand.tmp 11) 0), none, false⟩, ⟨some 15, (Op.extract (Operand.tmp 11) 1), none, false⟩, ⟨some 9, (Op.assign (Operand.tmp 14)), none, false⟩, ⟨some 10, (Op.assign (Operand.tmp 15)), none, false⟩]) (.seq ac_patch_reader_number_c1 (.seq (.reg [⟨some 40, (Op.move (Operand.tmp 9)), none, false⟩, ⟨some 8, (Op.assign (Operand.tmp 40)), none, false⟩]) .ret))))
theorem body_patch_reader_number : Tryd.f28.body = some code_patch_reader_number := by kernel_rfl
theorem slim_patch_reader_number : slim ann_patch_reader_number code_patch_reader_number = some ac_patch_reader_number := by kernel_rfl
theorem name_patch_reader_number : (Tryd.f28.name == "runtime.NumGoroutine") = false := by kernel_rfl
theorem enter_patch_reader_number {args : List AV} {h : Hp} {Q : AE → Hp → Prop} (H : awp Tryd.prog tab ac_patch_reader_number (retQ tab [(ResultVar.tmp 8)] Q) ⟨args ++ List.replicate (41 - args.length) .any, h⟩) : ACalls Tryd.prog 28 args h Q :=
  acalls_of tab_ok mixed Tryd.func28 body_patch_reader_number name_patch_reader_number slim_patch_reader_number rfl Tryd.ntmps28 H
/-- (*stylus/patch.reader).number, with what it is handed -/
def patch_reader_number_i0.w (a0_ : ByteArray) (a1_ : Int) (a2_ : Int) (c0_ : PatchReader) (Q : Int → PatchReader → Prop) (X : AV → Prop) : Prop :=
  strconv_Atoi.w a0_ (fun r1 =>
    wcut (α := Bool) (fun k1 =>
      if r1.2 = true then
        k1 true
      else
        strconv_Itoa.w r1.1 (fun r2 =>
          if r2 = a0_ then
            if r1.1 < a1_ then
              k1 true
            else
              k1 (decide (a2_ < r1.1))
          else
            k1 true)) (fun a1 =>
      if a1 = true then
        X (.ifc 54 (.agg [(aint c0_.line)]))
      else
        Q r1.1 c0_))
theorem patch_reader_number_i0.ok {a0_ : ByteArray} {a1_ : Int} {a2_ : Int} {c0_ : PatchReader} {Q : Int → PatchReader → Prop} {X : AV → Prop} (hm : patch_reader_number_i0.w a0_ a1_ a2_ c0_ Q X) {h0 h : Hp} {b0_ : Nat} (H : AM.Own h0 h [⟨(.optr b0_ 2 0 0), true, 2, [(PatchReader.enc c0_)], some (58, 2)⟩]) : ACalls Tryd.prog n_patch_reader_number [(.optr b0_ 2 0 0), (astr a0_), (aint a1_), (aint a2_)] h (PanOr h0 X (fun e h' => ∃ (r : Int) (c0' : PatchReader), e = .ret ((fun r => (aint r)) r) ∧ AM.Own h0 h' [⟨(.optr b0_ 2 0 0), true, 2, [(PatchReader.enc c0')], some (58, 2)⟩] ∧ Q r c0')) := by
  refine enter_patch_reader_number ?_
  unfold patch_reader_number_i0.w at hm
  have e0 := H.getP 0 rfl
  simp (maxSteps := 4000000) -implicitDefEqProofs (disch := omega) only [push_cast, Nat.reduceAdd, Nat.reduceLeDiff, Nat.reduceMul, Nat.reduceSub, Nat.reduceLT, Nat.reduceEqDiff, Int.reduceAdd, Int.reduceSub, Int.reduceLE, Int.reduceLT, Int.reduceEq, Int.reduceNe, Int.reduceToNat, Int.reduceNeg, reduceIte, reduceCtorEq, ac_patch_reader_number, e0]
  refine calls_w (fun h => strconv_Atoi.ok hm h) (fun r1 hm => ?_)
  have e0 := H.getP 0 rfl
  simp (maxSteps := 4000000) -implicitDefEqProofs (disch := omega) only [push_cast, Nat.reduceAdd, Nat.reduceLeDiff, Nat.reduceMul, Nat.reduceSub, Nat.reduceLT, Nat.reduceEqDiff, Int.reduceAdd, Int.reduceSub, Int.reduceLE, Int.reduceLT, Int.reduceEq, Int.reduceNe, Int.reduceToNat, Int.reduceNeg, reduceIte, reduceCtorEq, e0]
  obtain ⟨k1, hm, hk1⟩ := wcut_elim hm
  refine awp_cut (fun s' => ∃ (a1 : Bool) (h1 : Hp), Like s'.tm ((((List.replicate 41 none).set 0 (some (.optr b0_ 2 0 0))).set 9 (some (aint r1.1))).set 33 (some (abool a1))) ∧ s'.h = h1 ∧ AM.Own h0 h1 [⟨(.optr b0_ 2 0 0), true, 2, [(PatchReader.enc c0_)], some (58, 2)⟩] ∧ k1 a1) ?_ ?_
  · have e0 := H.getP 0 rfl
    simp (maxSteps := 4000000) -implicitDefEqProofs (disch := omega) only [push_cast, Nat.reduceAdd, Nat.reduceLeDiff, Nat.reduceMul, Nat.reduceSub, Nat.reduceLT, Nat.reduceEqDiff, Int.reduceAdd, Int.reduceSub, Int.reduceLE, Int.reduceLT, Int.reduceEq, Int.reduceNe, Int.reduceToNat, Int.reduceNeg, reduceIte, reduceCtorEq, e0]
    rw [gfork_bool']
    refine ⟨fun c1 => ?_, fun c1 => ?_⟩
    · replace hm := ifp hm c1
      have e0 := H.getP 0 rfl
      simp (maxSteps := 4000000) -implicitDefEqProofs (disch := omega) only [push_cast, Nat.reduceAdd, Nat.reduceLeDiff, Nat.reduceMul, Nat.reduceSub, Nat.reduceLT, Nat.reduceEqDiff, Int.reduceAdd, Int.reduceSub, Int.reduceLE, Int.reduceLT, Int.reduceEq, Int.reduceNe, Int.reduceToNat, Int.reduceNeg, reduceIte, reduceCtorEq, c1, e0]
      replace H := H.perm [0] (by decide)
      exact ⟨true, h, by simp [Like, push_cast], rfl, H, hm⟩
    · replace hm := ifn hm (by rw [c1]; exact Bool.false_ne_true)
      have e0 := H.getP 0 rfl
      simp (maxSteps := 4000000) -implicitDefEqProofs (disch := omega) only [push_cast, Nat.reduceAdd, Nat.reduceLeDiff, Nat.reduceMul, Nat.reduceSub, Nat.reduceLT, Nat.reduceEqDiff, Int.reduceAdd, Int.reduceSub, Int.reduceLE, Int.reduceLT, Int.reduceEq, Int.reduceNe, Int.reduceToNat, Int.reduceNeg, reduceIte, reduceCtorEq, c1, e0]
      refine calls_w (fun h => strconv_Itoa.ok hm h) (fun r2 hm => ?_)
      have e0 := H.getP 0 rfl
      simp (maxSteps := 4000000) -implicitDefEqProofs (disch := omega) only [push_cast, Nat.reduceAdd, Nat.reduceLeDiff, Nat.reduceMul, Nat.reduceSub, Nat.reduceLT, Nat.reduceEqDiff, Int.reduceAdd, Int.reduceSub, Int.reduceLE, Int.reduceLT, Int.reduceEq, Int.reduceNe, Int.reduceToNat, Int.reduceNeg, reduceIte, reduceCtorEq, c1, e0]
      rw [gfork_cond']
      refine ⟨fun c2 => ?_, fun c2 => ?_⟩
      · replace hm := ifn hm c2
        have e0 := H.getP 0 rfl
        simp (maxSteps := 4000000) -implicitDefEqProofs (disch := omega) only [push_cast, Nat.reduceAdd, Nat.reduceLeDiff, Nat.reduceMul, Nat.reduceSub, Nat.reduceLT, Nat.reduceEqDiff, Int.reduceAdd, Int.reduceSub, Int.reduceLE, Int.reduceLT, Int.reduceEq, Int.reduceNe, Int.reduceToNat, Int.reduceNeg, reduceIte, reduceCtorEq, c1, eq_false c2, e0]
        replace H := H.perm [0] (by decide)
        exact ⟨true, h, by simp [Like, push_cast], rfl, H, hm⟩
      · replace c2 := Decidable.not_not.1 c2
        replace hm := ifp hm c2
        have e0 := H.getP 0 rfl
        simp (maxSteps := 4000000) -implicitDefEqProofs (disch := omega) only [push_cast, Nat.reduceAdd, Nat.reduceLeDiff, Nat.reduceMul, Nat.reduceSub, Nat.reduceLT, Nat.reduceEqDiff, Int.reduceAdd, Int.reduceSub, Int.reduceLE, Int.reduceLT, Int.reduceEq, Int.reduceNe, Int.reduceToNat, Int.reduceNeg, reduceIte, reduceCtorEq, c1, eq_true c2, e0]
        rw [gfork_cond']
        refine ⟨fun c3 => ?_, fun c3 => ?_⟩
        · replace hm := ifp hm c3
          have e0 := H.getP 0 rfl
          simp (maxSteps := 4000000) -implicitDefEqProofs (disch := omega) only [push_cast, Nat.reduceAdd, Nat.reduceLeDiff, Nat.reduceMul, Nat.reduceSub, Nat.reduceLT, Nat.reduceEqDiff, Int.reduceAdd, Int.reduceSub, Int.reduceLE, Int.reduceLT, Int.reduceEq, Int.reduceNe, Int.reduceToNat, Int.reduceNeg, reduceIte, reduceCtorEq, c1, eq_true c2, eq_true c3, e0]
          replace H := H.perm [0] (by decide)
          exact ⟨true, h, by simp [Like, push_cast], rfl, H, hm⟩
        · replace hm := ifn hm c3
          have e0 := H.getP 0 rfl
          simp (maxSteps := 4000000) -implicitDefEqProofs (disch := omega) only [push_cast, Nat.reduceAdd, Nat.reduceLeDiff, Nat.reduceMul, Nat.reduceSub, Nat.reduceLT, Nat.reduceEqDiff, Int.reduceAdd, Int.reduceSub, Int.reduceLE, Int.reduceLT, Int.reduceEq, Int.reduceNe, Int.reduceToNat, Int.reduceNeg, reduceIte, reduceCtorEq, c1, eq_true c2, eq_false c3, e0]
          replace H := H.perm [0] (by decide)
          exact ⟨decide (a2_ < r1.1), h, by simp [Like, push_cast], rfl, H, hm⟩
  · rintro ⟨tm, h1⟩ ⟨a1, _, hL, rfl, H, hm⟩
    dsimp only at hL H
    obtain ⟨D, rfl⟩ := hL.fill 0
    replace hm := hk1 _ hm
    have e0 := H.getP 0 rfl
    simp (maxSteps := 4000000) -implicitDefEqProofs (disch := omega) only [push_cast, Nat.reduceAdd, Nat.reduceLeDiff, Nat.reduceMul, Nat.reduceSub, Nat.reduceLT, Nat.reduceEqDiff, Int.reduceAdd, Int.reduceSub, Int.reduceLE, Int.reduceLT, Int.reduceEq, Int.reduceNe, Int.reduceToNat, Int.reduceNeg, reduceIte, reduceCtorEq, e0]
    rw [fork_bool]
    refine ⟨fun c4 => ?_, fun c4 => ?_⟩
    · replace hm := ifp hm c4
      have e0 := H.getP 0 rfl
      simp (maxSteps := 4000000) -implicitDefEqProofs (disch := omega) only [push_cast, Nat.reduceAdd, Nat.reduceLeDiff, Nat.reduceMul, Nat.reduceSub, Nat.reduceLT, Nat.reduceEqDiff, Int.reduceAdd, Int.reduceSub, Int.reduceLE, Int.reduceLT, Int.reduceEq, Int.reduceNe, Int.reduceToNat, Int.reduceNeg, reduceIte, reduceCtorEq, c4, e0]
      exact retQ_pan H.sub hm
    · replace hm := ifn hm (by rw [c4]; exact Bool.false_ne_true)
      have e0 := H.getP 0 rfl
      simp (maxSteps := 4000000) -implicitDefEqProofs (disch := omega) only [push_cast, Nat.reduceAdd, Nat.reduceLeDiff, Nat.reduceMul, Nat.reduceSub, Nat.reduceLT, Nat.reduceEqDiff, Int.reduceAdd, Int.reduceSub, Int.reduceLE, Int.reduceLT, Int.reduceEq, Int.reduceNe, Int.reduceToNat, Int.reduceNeg, reduceIte, reduceCtorEq, c4, e0]
      have e0 := H.getP 0 rfl
      replace H := H.perm [0] (by decide)
      refine retQ_or (.inl rfl) ?_
      exact retQ_o (.inl rfl) (x := (aint r1.1)) rfl (Shift.refl _ _) ⟨r1.1, c0_, rfl, H, hm⟩
end Go.Proofs.YtggcmnoacplbkaaDoor
