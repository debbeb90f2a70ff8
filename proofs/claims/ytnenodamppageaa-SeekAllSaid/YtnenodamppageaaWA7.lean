/- Functions of the program: code, what is asked for their answers, the walk (printed by pr.py). -/
import Derived.Test.YtnenodamppageaaWA6
namespace Go.Proofs.Ytnenodamppageaa
open Go Go.Proofs.Ytnenodamppageaa.AM
set_option maxRecDepth 100000
set_option linter.unusedSimpArgs false
set_option linter.unusedVariables false
set_option maxHeartbeats 4000000
/-! stylus/styluslaw33.upper -/
abbrev n_styluslaw33_upper : Nat := 17
noncomputable def code_styluslaw33_upper : Code := match Try.f17.body with | some c => c | none => .skip
def ann_styluslaw33_upper : Nat → Ann
  | _ => {}
noncomputable def ac_styluslaw33_upper : AC :=
  (.seq (.reg [⟨some 2, (Op.assign (Operand.const (Value.string (ByteArray.mk #[])))), none, false⟩]) (.seq (.reg [⟨some 3, (Op.assign (Operand.const (Value.string (ByteArray.mk #[])))), none, false⟩]) (.seq (.seq (.reg [⟨some 4, (Op.assign (Operand.const (Value.int IntKind.i64 0))), none, false⟩]) (.block 0 (.loop (.seq (.seq (.reg [⟨some 5, (Op.move (Operand.tmp 4)), none, false⟩, ⟨some 6, (Op.move (Operand.tmp 0)), none, false⟩, ⟨some 7, (Op.call (Call.mk (Callee.builtin Builtin.len) #[(Operand.tmp 6)] #[9])), none, false⟩, ⟨some 8, (Op.binOp BinOp.lss 3 (Operand.tmp 5) (Operand.tmp 7) 3), none, false⟩]) (.cond (Operand.tmp 8) .skip (.exit 0))) (.seq (.block 1 (.reg [⟨some 11, (Op.move (Operand.tmp 3)), none, false⟩, ⟨some 12, (Op.move (Operand.tmp 0)), none, false⟩, ⟨some 13, (Op.move (Operand.tmp 4)), none, false⟩, ⟨some 14, (Op.index 9 (Operand.tmp 12) (Operand.tmp 13)), none, false⟩, ⟨some 15, (Op.call (Call.mk (Callee.value (Operand.func 27)) #[(Operand.tmp 14)] #[5])), none, false⟩, ⟨some 16, (Op.buildSlice 47 1 #[(0, (Operand.tmp 15))]), none, false⟩, ⟨some 17, (Op.convert 47 9 (Operand.tmp 16)), none, false⟩, ⟨some 18, (Op.binOp BinOp.add 9 (Operand.tmp 11) (Operand.tmp 17) 9), none, false⟩, ⟨some 3, (Op.assign (Operand.tmp 18)), none, false⟩])) (.reg [⟨some 9, (Op.move (Operand.tmp 4)), none, false⟩, ⟨some 10, (Op.binOp BinOp.add 3 (Operand.tmp 9) (Operand.const (Value.int IntKind.i64 1)) 3), none, false⟩, ⟨some 4, (Op.assign (Operand.tmp 10)), none, false⟩])))))) (.seq (.reg [⟨some 19, (Op.move (Operand.tmp 3)), none, false⟩, ⟨some 2, (Op.assign (Operand.tmp 19)), none, false⟩]) .ret))))
theorem body_styluslaw33_upper : Try.f17.body = some code_styluslaw33_upper := by kernel_rfl
theorem slim_styluslaw33_upper : slim ann_styluslaw33_upper code_styluslaw33_upper = some ac_styluslaw33_upper := by kernel_rfl
theorem name_styluslaw33_upper : (Try.f17.name == "runtime.NumGoroutine") = false := by kernel_rfl
theorem enter_styluslaw33_upper {args : List AV} {h : Hp} {Q : AE → Hp → Prop} (H : awp Try.prog tab ac_styluslaw33_upper (retQ tab [(ResultVar.tmp 2)] Q) ⟨args ++ List.replicate (20 - args.length) .any, h⟩) : ACalls Try.prog 17 args h Q :=
  acalls_of tab_ok mixed Try.func17 body_styluslaw33_upper name_styluslaw33_upper slim_styluslaw33_upper rfl Try.ntmps17 H
/-- stylus/styluslaw33.upper -/
def styluslaw33_upper.w (a0_ : ByteArray) (Q : ByteArray → Prop) : Prop :=
  wloop (σ := ByteArray × Int) (fun ⟨a1, a2⟩ next1 =>
    if a2 < (a0_.size : Int) then
      (0 ≤ a2) ∧
      ∃ v1 : UInt8, a0_[a2.toNat]? = some v1 ∧
      chars_Upper.w (v1.toNat : Int) (fun r1 =>
        (a1.size + (ofBytes ([r1] : List Int)).size ≤ 9223372036854775807) ∧
        (I64 (a2 + 1)) ∧
        next1 (a1 ++ (ofBytes ([r1] : List Int)), a2 + 1))
    else
      Q a1) ((ByteArray.mk #[]), 0)
theorem styluslaw33_upper.ok {a0_ : ByteArray} {Q : ByteArray → Prop} (hm : styluslaw33_upper.w a0_ Q) (h0 : Hp) : ACalls Try.prog n_styluslaw33_upper [(astr a0_)] h0 (Back h0 (fun r => (astr r)) Q) := by
  refine enter_styluslaw33_upper ?_
  unfold styluslaw33_upper.w at hm
  have H := AM.Own.nil h0
  simp (maxSteps := 4000000) -implicitDefEqProofs (disch := omega) only [push_cast, Nat.reduceAdd, Nat.reduceLeDiff, Nat.reduceMul, Nat.reduceSub, Nat.reduceLT, Nat.reduceEqDiff, Int.reduceAdd, Int.reduceSub, Int.reduceLE, Int.reduceLT, Int.reduceEq, Int.reduceNe, Int.reduceToNat, Int.reduceNeg, reduceIte, reduceCtorEq, ac_styluslaw33_upper]
  obtain ⟨inv1, mu1, hi1, hs1⟩ := hm
  replace H := H.perm [] (by decide)
  refine awp_loop (σ := (ByteArray × Int) × Hp) (fun ⟨⟨a1, a2⟩, h1⟩ => ⟨(((List.replicate 20 AV.any).set 0 (astr a0_)).set 3 (astr a1)).set 4 (aint a2), h1⟩) (fun ⟨⟨a1, a2⟩, h1⟩ => inv1 (a1, a2) ∧ AM.Own h0 h1 []) (fun ⟨⟨a1, a2⟩, h1⟩ => mu1 (a1, a2)) ⟨((ByteArray.mk #[]), 0), h0⟩ (Retell.weak (by simp [Weak, push_cast]) (Hp.sub.refl _)) ⟨hi1, H⟩ ?_
  rintro ⟨⟨a1, a2⟩, h1⟩ ⟨hi1, H⟩
  have hm := hs1 _ hi1
  dsimp only at hm H ⊢
  simp (maxSteps := 4000000) -implicitDefEqProofs (disch := omega) only [push_cast, Nat.reduceAdd, Nat.reduceLeDiff, Nat.reduceMul, Nat.reduceSub, Nat.reduceLT, Nat.reduceEqDiff, Int.reduceAdd, Int.reduceSub, Int.reduceLE, Int.reduceLT, Int.reduceEq, Int.reduceNe, Int.reduceToNat, Int.reduceNeg, reduceIte, reduceCtorEq]
  rw [fork_cond]
  refine ⟨fun c1 => ?_, fun c1 => ?_⟩
  · replace hm := ifp hm c1
    obtain ⟨z1, hm⟩ := hm
    obtain ⟨v1, i1, hm⟩ := hm
    simp (maxSteps := 4000000) -implicitDefEqProofs (disch := omega) only [push_cast, Nat.reduceAdd, Nat.reduceLeDiff, Nat.reduceMul, Nat.reduceSub, Nat.reduceLT, Nat.reduceEqDiff, Int.reduceAdd, Int.reduceSub, Int.reduceLE, Int.reduceLT, Int.reduceEq, Int.reduceNe, Int.reduceToNat, Int.reduceNeg, reduceIte, reduceCtorEq, eq_true c1, eq_true z1, i1]
    refine calls_w (fun h => chars_Upper.ok hm h) (fun r1 hm => ?_)
    simp (maxSteps := 4000000) -implicitDefEqProofs (disch := omega) only [push_cast, Nat.reduceAdd, Nat.reduceLeDiff, Nat.reduceMul, Nat.reduceSub, Nat.reduceLT, Nat.reduceEqDiff, Int.reduceAdd, Int.reduceSub, Int.reduceLE, Int.reduceLT, Int.reduceEq, Int.reduceNe, Int.reduceToNat, Int.reduceNeg, reduceIte, reduceCtorEq, eq_true c1, eq_true z1, i1]
    refine H.newL (E := encU8) ([r1] : List Int) rfl rfl (fun b1 h2 H => ?_)
    obtain ⟨w1, hm⟩ := hm
    obtain ⟨w2, hm⟩ := hm
    simp (maxSteps := 4000000) -implicitDefEqProofs (disch := omega) only [push_cast, Nat.reduceAdd, Nat.reduceLeDiff, Nat.reduceMul, Nat.reduceSub, Nat.reduceLT, Nat.reduceEqDiff, Int.reduceAdd, Int.reduceSub, Int.reduceLE, Int.reduceLT, Int.reduceEq, Int.reduceNe, Int.reduceToNat, Int.reduceNeg, reduceIte, reduceCtorEq, eq_true c1, eq_true z1, i1, eq_true w1, wrap_i64 _ w2, H.text 0 rfl tab_47 tab_9 tab_5]
    replace H := H.perm [] (by decide)
    exact ⟨⟨(a1 ++ (ofBytes ([r1] : List Int)), a2 + 1), h2⟩, hm.2, ⟨hm.1, H⟩, Retell.weak (by simp [Weak, push_cast]) (Hp.sub.refl _)⟩
  · replace hm := ifn hm c1
    simp (maxSteps := 4000000) -implicitDefEqProofs (disch := omega) only [push_cast, Nat.reduceAdd, Nat.reduceLeDiff, Nat.reduceMul, Nat.reduceSub, Nat.reduceLT, Nat.reduceEqDiff, Int.reduceAdd, Int.reduceSub, Int.reduceLE, Int.reduceLT, Int.reduceEq, Int.reduceNe, Int.reduceToNat, Int.reduceNeg, reduceIte, reduceCtorEq, eq_false c1]
    exact retQ_back (.inl rfl) a1 _ rfl (Shift.refl _ _) H.sub hm
end Go.Proofs.Ytnenodamppageaa
