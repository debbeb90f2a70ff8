/- Functions of the program: code, what is asked for their answers, the walk (printed by pr.py). -/
import Derived.Test.YtlnjajfagildnaaDoorWA1
namespace Go.Proofs.YtlnjajfagildnaaDoor
open Go Go.Proofs.YtlnjajfagildnaaDoor.AM
set_option maxRecDepth 100000
set_option linter.unusedSimpArgs false
set_option linter.unusedVariables false
set_option maxHeartbeats 4000000
/-! stylus/stylusref35.Told -/
abbrev n_stylusref35_Told : Nat := 28
noncomputable def code_stylusref35_Told : Code := match Tryd.f28.body with | some c => c | none => .skip
def ann_stylusref35_Told : Nat → Ann
  | _ => {}
noncomputable def ac_stylusref35_Told : AC :=
  (.seq (.reg [⟨some 1, (Op.box 25 (Operand.tmp 0)), none, false⟩, ⟨some 2, (Op.assign (Operand.const (Value.bool false))), none, false⟩]) (.seq (.seq (.reg [⟨some 3, (Op.assign (Operand.const (Value.int IntKind.i64 0))), none, false⟩]) (.block 0 (.loop (.seq (.seq (.reg [⟨some 5, (Op.move (Operand.tmp 3)), none, false⟩, ⟨some 6, (Op.fieldAddr 25 (Operand.tmp 1) 1), none, false⟩, ⟨some 7, (Op.load 23 (Operand.tmp 6)), none, false⟩, ⟨some 8, (Op.call (Call.mk (Callee.builtin Builtin.len) #[(Operand.tmp 7)] #[23])), none, false⟩, ⟨some 9, (Op.binOp BinOp.lss 3 (Operand.tmp 5) (Operand.tmp 8) 3), none, false⟩]) (.cond (Operand.tmp 9) .skip (.exit 0))) (.seq (.block 1 (.seq (.reg [⟨some 4, (Op.assign (Operand.const (Value.int IntKind.i64 0))), none, false⟩]) (.block 2 (.loop (.seq (.seq (.reg [⟨some 12, (Op.move (Operand.tmp 4)), none, false⟩, ⟨some 13, (Op.fieldAddr 25 (Operand.tmp 1) 1), none, false⟩, ⟨some 14, (Op.load 23 (Operand.tmp 13)), none, false⟩, ⟨some 15, (Op.move (Operand.tmp 3)), none, false⟩, ⟨some 16, (Op.indexAddr 23 (Operand.tmp 14) (Operand.tmp 15)), none, false⟩, ⟨some 17, (Op.fieldAddr 40 (Operand.tmp 16) 1), none, false⟩, ⟨some 18, (Op.load 38 (Operand.tmp 17)), none, false⟩, ⟨some 19, (Op.call (Call.mk (Callee.builtin Builtin.len) #[(Operand.tmp 18)] #[38])), none, false⟩, ⟨some 20, (Op.binOp BinOp.lss 3 (Operand.tmp 12) (Operand.tmp 19) 3), none, false⟩]) (.cond (Operand.tmp 20) .skip (.exit 2))) (.seq (.block 3 (.seq (.reg [⟨some 23, (Op.fieldAddr 25 (Operand.tmp 1) 1), none, false⟩, ⟨some 24, (Op.load 23 (Operand.tmp 23)), none, false⟩, ⟨some 25, (Op.move (Operand.tmp 3)), none, false⟩, ⟨some 26, (Op.indexAddr 23 (Operand.tmp 24) (Operand.tmp 25)), none, false⟩, ⟨some 27, (Op.fieldAddr 40 (Operand.tmp 26) 1), none, false⟩, ⟨some 28, (Op.load 38 (Operand.tmp 27)), none, false⟩, ⟨some 29, (Op.move (Operand.tmp 4)), none, false⟩, ⟨some 30, (Op.indexAddr 38 (Operand.tmp 28) (Operand.tmp 29)), none, false⟩, ⟨some 31, (Op.load 9 (Operand.tmp 30)), none, false⟩, ⟨some 32, (Op.call (Call.mk (Callee.value (Operand.func 35)) #[(Operand.tmp 31), (Operand.const (Value.int IntKind.u8 10))] #[9, 5])), none, false⟩, ⟨some 33, (Op.call (Call.mk (Callee.builtin Builtin.len) #[(Operand.tmp 32)] #[38])), none, false⟩, ⟨some 34, (Op.binOp BinOp.gtr 3 (Operand.tmp 33) (Operand.const (Value.int IntKind.i64 1)) 3), none, false⟩]) (.cond (Operand.tmp 34) (.seq (.reg [⟨some 2, (Op.assign (Operand.const (Value.bool false))), none, false⟩]) .ret) .skip))) (.reg [⟨some 21, (Op.move (Operand.tmp 4)), none, false⟩, ⟨some 22, (Op.binOp BinOp.add 3 (Operand.tmp 21) (Operand.const (Value.int IntKind.i64 1)) 3), none, false⟩, ⟨some 4, (Op.assign (Operand.tmp 22)), none, false⟩]))))))) (.reg [⟨some 10, (Op.move (Operand.tmp 3)), none, false⟩, ⟨some 11, (Op.binOp BinOp.add 3 (Operand.tmp 10) (Operand.const (Value.int IntKind.i64 1)) 3), none, false⟩, ⟨some 3, (Op.assign (Operand.tmp 11)), none, false⟩])))))) (.seq (.reg [⟨some 35, (Op.load 25 (Operand.tmp 1)), none, false⟩, ⟨some 36, (Op.call (Call.mk (Callee.value (Operand.func 22)) #[(Operand.tmp 35)] #[25])), none, false⟩, ⟨some 37, (Op.move (Operand.tmp 36)), none, false⟩, ⟨some 38, (Op.fieldAddr 25 (Operand.tmp 1) 0), (some (some 37, true)), false⟩, ⟨some 39, (Op.load 3 (Operand.tmp 38)), (some (some 37, true)), false⟩, ⟨some 40, (Op.binOp BinOp.leq 3 (Operand.tmp 39) (Operand.const (Value.int IntKind.i64 999999999)) 3), (some (some 37, true)), false⟩, ⟨some 41, (Op.pick (Operand.tmp 37) (Operand.tmp 40) (Operand.const (Value.bool false))), none, false⟩, ⟨some 2, (Op.assign (Operand.tmp 41)), none, false⟩]) .ret)))
theorem body_stylusref35_Told : Tryd.f28.body = some code_stylusref35_Told := by kernel_rfl
theorem slim_stylusref35_Told : slim ann_stylusref35_Told code_stylusref35_Told = some ac_stylusref35_Told := by kernel_rfl
theorem name_stylusref35_Told : (Tryd.f28.name == "runtime.NumGoroutine") = false := by kernel_rfl
theorem enter_stylusref35_Told {args : List AV} {h : Hp} {Q : AE → Hp → Prop} (H : awp Tryd.prog tab ac_stylusref35_Told (retQ tab [(ResultVar.tmp 2)] Q) ⟨args ++ List.replicate (42 - args.length) .any, h⟩) : ACalls Tryd.prog 28 args h Q :=
  acalls_of tab_ok mixed Tryd.func28 body_stylusref35_Told name_stylusref35_Told slim_stylusref35_Told rfl Tryd.ntmps28 H
/-- stylus/stylusref35.Told -/
def stylusref35_Told.w (a0_ : ApiPatch) (Q : Bool → Prop) : Prop :=
  wloop (σ := Int) (fun a1 next1 =>
    if a1 < (a0_.Changes.length : Int) then
      wloop (σ := Int) (fun a2 next2 =>
        (0 ≤ a1) ∧
        ∃ v1 : ApiChange, a0_.Changes[a1.toNat]? = some v1 ∧
        if a2 < (v1.Lines.length : Int) then
          (0 ≤ a2) ∧
          ∃ v3 : ByteArray, v1.Lines[a2.toNat]? = some v3 ∧
          stylusref16_Split.w v3 10 (fun r1 =>
            if 1 < (r1.length : Int) then
              Q false
            else
              (I64 (a2 + 1)) ∧
              next2 (a2 + 1))
        else
          (I64 (a1 + 1)) ∧
          next1 (a1 + 1)) 0
    else
      stylusref35_Rising.w a0_ (fun r2 =>
        if r2 = true then
          Q (decide (a0_.Pages ≤ 999999999))
        else
          Q false)) 0
theorem stylusref35_Told.ok {a0_ : ApiPatch} {Q : Bool → Prop} (hm : stylusref35_Told.w a0_ Q) (h0 : Hp) : ACalls Tryd.prog n_stylusref35_Told [(.agg (ApiPatch.enc a0_))] h0 (Back h0 (fun r => (abool r)) Q) := by
  refine enter_stylusref35_Told ?_
  unfold stylusref35_Told.w at hm
  have H := AM.Own.nil h0
  simp (maxSteps := 4000000) -implicitDefEqProofs (disch := omega) only [push_cast, Nat.reduceAdd, Nat.reduceLeDiff, Nat.reduceMul, Nat.reduceSub, Nat.reduceLT, Nat.reduceEqDiff, Int.reduceAdd, Int.reduceSub, Int.reduceLE, Int.reduceLT, Int.reduceEq, Int.reduceNe, Int.reduceToNat, Int.reduceNeg, reduceIte, reduceCtorEq, ac_stylusref35_Told]
  refine H.newR (ApiPatch.enc a0_) rfl (fun b1 h1 H => ?_)
  have e0 := H.getP 0 rfl
  simp (maxSteps := 4000000) -implicitDefEqProofs (disch := omega) only [push_cast, Nat.reduceAdd, Nat.reduceLeDiff, Nat.reduceMul, Nat.reduceSub, Nat.reduceLT, Nat.reduceEqDiff, Int.reduceAdd, Int.reduceSub, Int.reduceLE, Int.reduceLT, Int.reduceEq, Int.reduceNe, Int.reduceToNat, Int.reduceNeg, reduceIte, reduceCtorEq, e0]
  obtain ⟨inv1, mu1, hi1, hs1⟩ := hm
  replace H := H.perm [0] (by decide)
  refine awp_loop (σ := Int × Hp) (fun ⟨a1, h2⟩ => ⟨((List.replicate 42 AV.any).set 1 (.optr b1 2 0 0)).set 3 (aint a1), h2⟩) (fun ⟨a1, h2⟩ => inv1 a1 ∧ AM.Own h0 h2 [⟨(.optr b1 2 0 0), true, 2, [(ApiPatch.enc a0_)], some (25, 2)⟩]) (fun ⟨a1, h2⟩ => mu1 a1) ⟨0, h1⟩ (Retell.weak (by simp [Weak, push_cast]) (Hp.sub.refl _)) ⟨hi1, H⟩ ?_
  rintro ⟨a1, h2⟩ ⟨hi1, H⟩
  have hm := hs1 _ hi1
  dsimp only at hm H ⊢
  have e0 := H.getP 0 rfl
  simp (maxSteps := 4000000) -implicitDefEqProofs (disch := omega) only [push_cast, Nat.reduceAdd, Nat.reduceLeDiff, Nat.reduceMul, Nat.reduceSub, Nat.reduceLT, Nat.reduceEqDiff, Int.reduceAdd, Int.reduceSub, Int.reduceLE, Int.reduceLT, Int.reduceEq, Int.reduceNe, Int.reduceToNat, Int.reduceNeg, reduceIte, reduceCtorEq, e0]
  rw [fork_cond]
  refine ⟨fun c1 => ?_, fun c1 => ?_⟩
  · replace hm := ifp hm c1
    have e0 := H.getP 0 rfl
    simp (maxSteps := 4000000) -implicitDefEqProofs (disch := omega) only [push_cast, Nat.reduceAdd, Nat.reduceLeDiff, Nat.reduceMul, Nat.reduceSub, Nat.reduceLT, Nat.reduceEqDiff, Int.reduceAdd, Int.reduceSub, Int.reduceLE, Int.reduceLT, Int.reduceEq, Int.reduceNe, Int.reduceToNat, Int.reduceNeg, reduceIte, reduceCtorEq, eq_true c1, e0]
    obtain ⟨inv2, mu2, hi2, hs2⟩ := hm
    replace H := H.perm [0] (by decide)
    refine awp_loop (σ := Int × Hp) (fun ⟨a2, h3⟩ => ⟨(((List.replicate 42 AV.any).set 1 (.optr b1 2 0 0)).set 3 (aint a1)).set 4 (aint a2), h3⟩) (fun ⟨a2, h3⟩ => inv2 a2 ∧ AM.Own h0 h3 [⟨(.optr b1 2 0 0), true, 2, [(ApiPatch.enc a0_)], some (25, 2)⟩]) (fun ⟨a2, h3⟩ => mu2 a2) ⟨0, h2⟩ (Retell.weak (by simp [Weak, push_cast]) (Hp.sub.refl _)) ⟨hi2, H⟩ ?_
    rintro ⟨a2, h3⟩ ⟨hi2, H⟩
    have hm := hs2 _ hi2
    dsimp only at hm H ⊢
    obtain ⟨z1, hm⟩ := hm
    obtain ⟨v1, i1, hm⟩ := hm
    have e0 := H.getP 0 rfl
    simp (maxSteps := 4000000) -implicitDefEqProofs (disch := omega) only [push_cast, Nat.reduceAdd, Nat.reduceLeDiff, Nat.reduceMul, Nat.reduceSub, Nat.reduceLT, Nat.reduceEqDiff, Int.reduceAdd, Int.reduceSub, Int.reduceLE, Int.reduceLT, Int.reduceEq, Int.reduceNe, Int.reduceToNat, Int.reduceNeg, reduceIte, reduceCtorEq, eq_true c1, eq_true z1, i1, e0]
    rw [fork_cond]
    refine ⟨fun c2 => ?_, fun c2 => ?_⟩
    · replace hm := ifp hm c2
      obtain ⟨z2, hm⟩ := hm
      obtain ⟨v3, i3, hm⟩ := hm
      have e0 := H.getP 0 rfl
      simp (maxSteps := 4000000) -implicitDefEqProofs (disch := omega) only [push_cast, Nat.reduceAdd, Nat.reduceLeDiff, Nat.reduceMul, Nat.reduceSub, Nat.reduceLT, Nat.reduceEqDiff, Int.reduceAdd, Int.reduceSub, Int.reduceLE, Int.reduceLT, Int.reduceEq, Int.reduceNe, Int.reduceToNat, Int.reduceNeg, reduceIte, reduceCtorEq, eq_true c1, eq_true z1, i1, eq_true c2, eq_true z2, i3, e0]
      refine calls_w (fun h => stylusref16_Split.ok hm h) (fun r1 hm => ?_)
      have e0 := H.getP 0 rfl
      simp (maxSteps := 4000000) -implicitDefEqProofs (disch := omega) only [push_cast, Nat.reduceAdd, Nat.reduceLeDiff, Nat.reduceMul, Nat.reduceSub, Nat.reduceLT, Nat.reduceEqDiff, Int.reduceAdd, Int.reduceSub, Int.reduceLE, Int.reduceLT, Int.reduceEq, Int.reduceNe, Int.reduceToNat, Int.reduceNeg, reduceIte, reduceCtorEq, eq_true c1, eq_true z1, i1, eq_true c2, eq_true z2, i3, e0]
      rw [fork_cond]
      refine ⟨fun c3 => ?_, fun c3 => ?_⟩
      · replace hm := ifp hm c3
        have e0 := H.getP 0 rfl
        simp (maxSteps := 4000000) -implicitDefEqProofs (disch := omega) only [push_cast, Nat.reduceAdd, Nat.reduceLeDiff, Nat.reduceMul, Nat.reduceSub, Nat.reduceLT, Nat.reduceEqDiff, Int.reduceAdd, Int.reduceSub, Int.reduceLE, Int.reduceLT, Int.reduceEq, Int.reduceNe, Int.reduceToNat, Int.reduceNeg, reduceIte, reduceCtorEq, eq_true c1, eq_true z1, i1, eq_true c2, eq_true z2, i3, eq_true c3, e0]
        exact retQ_back (.inl rfl) false _ rfl (Shift.refl _ _) H.sub hm
      · replace hm := ifn hm c3
        obtain ⟨w1, hm⟩ := hm
        have e0 := H.getP 0 rfl
        simp (maxSteps := 4000000) -implicitDefEqProofs (disch := omega) only [push_cast, Nat.reduceAdd, Nat.reduceLeDiff, Nat.reduceMul, Nat.reduceSub, Nat.reduceLT, Nat.reduceEqDiff, Int.reduceAdd, Int.reduceSub, Int.reduceLE, Int.reduceLT, Int.reduceEq, Int.reduceNe, Int.reduceToNat, Int.reduceNeg, reduceIte, reduceCtorEq, eq_true c1, eq_true z1, i1, eq_true c2, eq_true z2, i3, eq_false c3, wrap_i64 _ w1, e0]
        replace H := H.perm [0] (by decide)
        exact ⟨⟨a2 + 1, h3⟩, hm.2, ⟨hm.1, H⟩, Retell.weak (by simp [Weak, push_cast]) (Hp.sub.refl _)⟩
    · replace hm := ifn hm c2
      obtain ⟨w2, hm⟩ := hm
      have e0 := H.getP 0 rfl
      simp (maxSteps := 4000000) -implicitDefEqProofs (disch := omega) only [push_cast, Nat.reduceAdd, Nat.reduceLeDiff, Nat.reduceMul, Nat.reduceSub, Nat.reduceLT, Nat.reduceEqDiff, Int.reduceAdd, Int.reduceSub, Int.reduceLE, Int.reduceLT, Int.reduceEq, Int.reduceNe, Int.reduceToNat, Int.reduceNeg, reduceIte, reduceCtorEq, eq_true c1, eq_true z1, i1, eq_false c2, wrap_i64 _ w2, e0]
      replace H := H.perm [0] (by decide)
      exact ⟨⟨a1 + 1, h3⟩, hm.2, ⟨hm.1, H⟩, Retell.weak (by simp [Weak, push_cast]) (Hp.sub.refl _)⟩
  · replace hm := ifn hm c1
    have e0 := H.getP 0 rfl
    simp (maxSteps := 4000000) -implicitDefEqProofs (disch := omega) only [push_cast, Nat.reduceAdd, Nat.reduceLeDiff, Nat.reduceMul, Nat.reduceSub, Nat.reduceLT, Nat.reduceEqDiff, Int.reduceAdd, Int.reduceSub, Int.reduceLE, Int.reduceLT, Int.reduceEq, Int.reduceNe, Int.reduceToNat, Int.reduceNeg, reduceIte, reduceCtorEq, eq_false c1, e0]
    refine calls_w (fun h => stylusref35_Rising.ok hm h) (fun r2 hm => ?_)
    have e0 := H.getP 0 rfl
    simp (maxSteps := 4000000) -implicitDefEqProofs (disch := omega) only [push_cast, Nat.reduceAdd, Nat.reduceLeDiff, Nat.reduceMul, Nat.reduceSub, Nat.reduceLT, Nat.reduceEqDiff, Int.reduceAdd, Int.reduceSub, Int.reduceLE, Int.reduceLT, Int.reduceEq, Int.reduceNe, Int.reduceToNat, Int.reduceNeg, reduceIte, reduceCtorEq, eq_false c1, e0]
    rw [gfork_bool]
    refine ⟨fun c4 => ?_, fun c4 => ?_⟩
    · replace hm := ifp hm c4
      have e0 := H.getP 0 rfl
      simp (maxSteps := 4000000) -implicitDefEqProofs (disch := omega) only [push_cast, Nat.reduceAdd, Nat.reduceLeDiff, Nat.reduceMul, Nat.reduceSub, Nat.reduceLT, Nat.reduceEqDiff, Int.reduceAdd, Int.reduceSub, Int.reduceLE, Int.reduceLT, Int.reduceEq, Int.reduceNe, Int.reduceToNat, Int.reduceNeg, reduceIte, reduceCtorEq, eq_false c1, c4, e0]
      exact retQ_back (.inl rfl) (decide (a0_.Pages ≤ 999999999)) _ rfl (Shift.refl _ _) H.sub hm
    · replace hm := ifn hm (by rw [c4]; exact Bool.false_ne_true)
      have e0 := H.getP 0 rfl
      simp (maxSteps := 4000000) -implicitDefEqProofs (disch := omega) only [push_cast, Nat.reduceAdd, Nat.reduceLeDiff, Nat.reduceMul, Nat.reduceSub, Nat.reduceLT, Nat.reduceEqDiff, Int.reduceAdd, Int.reduceSub, Int.reduceLE, Int.reduceLT, Int.reduceEq, Int.reduceNe, Int.reduceToNat, Int.reduceNeg, reduceIte, reduceCtorEq, eq_false c1, c4, e0]
      exact retQ_back (.inl rfl) false _ rfl (Shift.refl _ _) H.sub hm
/-! stylus/stylusref16.Digits -/
abbrev n_stylusref16_Digits : Nat := 29
noncomputable def code_stylusref16_Digits : Code := match Tryd.f29.body with | some c => c | none => .skip
def ann_stylusref16_Digits : Nat → Ann
  | _ => {}
noncomputable def ac_stylusref16_Digits : AC :=
  (.seq (.reg [⟨some 2, (Op.assign (Operand.const (Value.string (ByteArray.mk #[])))), none, false⟩]) (.seq (.reg [⟨some 4, (Op.move (Operand.tmp 0)), none, false⟩, ⟨some 5, (Op.binOp BinOp.rem 3 (Operand.tmp 4) (Operand.const (Value.int IntKind.i64 10)) 3), none, false⟩, ⟨some 6, (Op.binOp BinOp.add 3 (Operand.const (Value.int IntKind.i64 48)) (Operand.tmp 5) 3), none, false⟩, ⟨some 7, (Op.convert 3 5 (Operand.tmp 6)), none, false⟩, ⟨some 8, (Op.buildSlice 50 1 #[(0, (Operand.tmp 7))]), none, false⟩, ⟨some 9, (Op.convert 50 9 (Operand.tmp 8)), none, false⟩, ⟨some 3, (Op.assign (Operand.tmp 9)), none, false⟩]) (.seq (.seq (.reg [⟨some 10, (Op.move (Operand.tmp 0)), none, false⟩, ⟨some 11, (Op.binOp BinOp.gtr 3 (Operand.tmp 10) (Operand.const (Value.int IntKind.i64 9)) 3), none, false⟩]) (.cond (Operand.tmp 11) (.seq (.reg [⟨some 12, (Op.move (Operand.tmp 0)), none, false⟩, ⟨some 13, (Op.binOp BinOp.quo 3 (Operand.tmp 12) (Operand.const (Value.int IntKind.i64 10)) 3), none, false⟩, ⟨some 14, (Op.call (Call.mk (Callee.value (Operand.func 29)) #[(Operand.tmp 13)] #[3])), none, false⟩, ⟨some 15, (Op.move (Operand.tmp 3)), none, false⟩, ⟨some 16, (Op.binOp BinOp.add 9 (Operand.tmp 14) (Operand.tmp 15) 9), none, false⟩, ⟨some 2, (Op.assign (Operand.tmp 16)), none, false⟩]) .ret) .skip)) (.seq (.reg [⟨some 17, (Op.move (Operand.tmp 3)), none, false⟩, ⟨some 2, (Op.assign (Operand.tmp 17)), none, false⟩]) .ret))))
theorem body_stylusref16_Digits : Tryd.f29.body = some code_stylusref16_Digits := by kernel_rfl
theorem slim_stylusref16_Digits : slim ann_stylusref16_Digits code_stylusref16_Digits = some ac_stylusref16_Digits := by kernel_rfl
theorem name_stylusref16_Digits : (Tryd.f29.name == "runtime.NumGoroutine") = false := by kernel_rfl
theorem enter_stylusref16_Digits {args : List AV} {h : Hp} {Q : AE → Hp → Prop} (H : awp Tryd.prog tab ac_stylusref16_Digits (retQ tab [(ResultVar.tmp 2)] Q) ⟨args ++ List.replicate (18 - args.length) .any, h⟩) : ACalls Tryd.prog 29 args h Q :=
  acalls_of tab_ok mixed Tryd.func29 body_stylusref16_Digits name_stylusref16_Digits slim_stylusref16_Digits rfl Tryd.ntmps29 H
/-- stylus/stylusref16.Digits -/
def stylusref16_Digits.wn : Nat → Int → (ByteArray → Prop) → Prop
  | 0, _, _ => False
  | k + 1, a0_, Q =>
    (I64 (48 + (a0_.tmod 10))) ∧
    if 9 < a0_ then
      (I64 (a0_.tdiv 10)) ∧
      stylusref16_Digits.wn k (a0_.tdiv 10) (fun r1 =>
        (r1.size + (ofBytes ([IntKind.u8.wrap (48 + (a0_.tmod 10))] : List Int)).size ≤ 9223372036854775807) ∧
        Q (r1 ++ (ofBytes ([IntKind.u8.wrap (48 + (a0_.tmod 10))] : List Int))))
    else
      Q (ofBytes ([IntKind.u8.wrap (48 + (a0_.tmod 10))] : List Int))
def stylusref16_Digits.w (a0_ : Int) (Q : ByteArray → Prop) : Prop := ∃ k, stylusref16_Digits.wn k a0_ Q
theorem stylusref16_Digits.okn : ∀ (k : Nat) (a0_ : Int) (Q : ByteArray → Prop) (hm : stylusref16_Digits.wn k a0_ Q) (h0 : Hp), ACalls Tryd.prog n_stylusref16_Digits [(aint a0_)] h0 (Back h0 (fun r => (astr r)) Q)
  | 0, _, _, hm, _ => hm.elim
  | k + 1, a0_, Q, hm, h0 => by
    refine enter_stylusref16_Digits ?_
    unfold stylusref16_Digits.wn at hm
    have H := AM.Own.nil h0
    obtain ⟨w1, hm⟩ := hm
    simp (maxSteps := 4000000) -implicitDefEqProofs (disch := omega) only [push_cast, Nat.reduceAdd, Nat.reduceLeDiff, Nat.reduceMul, Nat.reduceSub, Nat.reduceLT, Nat.reduceEqDiff, Int.reduceAdd, Int.reduceSub, Int.reduceLE, Int.reduceLT, Int.reduceEq, Int.reduceNe, Int.reduceToNat, Int.reduceNeg, reduceIte, reduceCtorEq, ac_stylusref16_Digits, wrap_i64 _ w1]
    refine H.newL (E := encU8) ([IntKind.u8.wrap (48 + (a0_.tmod 10))] : List Int) rfl rfl (fun b1 h1 H => ?_)
    simp (maxSteps := 4000000) -implicitDefEqProofs (disch := omega) only [push_cast, Nat.reduceAdd, Nat.reduceLeDiff, Nat.reduceMul, Nat.reduceSub, Nat.reduceLT, Nat.reduceEqDiff, Int.reduceAdd, Int.reduceSub, Int.reduceLE, Int.reduceLT, Int.reduceEq, Int.reduceNe, Int.reduceToNat, Int.reduceNeg, reduceIte, reduceCtorEq, wrap_i64 _ w1, H.text 0 rfl tab_50 tab_9 tab_5]
    rw [fork_cond]
    refine ⟨fun c1 => ?_, fun c1 => ?_⟩
    · replace hm := ifp hm c1
      obtain ⟨w2, hm⟩ := hm
      simp (maxSteps := 4000000) -implicitDefEqProofs (disch := omega) only [push_cast, Nat.reduceAdd, Nat.reduceLeDiff, Nat.reduceMul, Nat.reduceSub, Nat.reduceLT, Nat.reduceEqDiff, Int.reduceAdd, Int.reduceSub, Int.reduceLE, Int.reduceLT, Int.reduceEq, Int.reduceNe, Int.reduceToNat, Int.reduceNeg, reduceIte, reduceCtorEq, wrap_i64 _ w1, eq_true c1, wrap_i64 _ w2]
      refine calls_w (fun h => stylusref16_Digits.okn k _ _ hm h) (fun r1 hm => ?_)
      obtain ⟨w3, hm⟩ := hm
      simp (maxSteps := 4000000) -implicitDefEqProofs (disch := omega) only [push_cast, Nat.reduceAdd, Nat.reduceLeDiff, Nat.reduceMul, Nat.reduceSub, Nat.reduceLT, Nat.reduceEqDiff, Int.reduceAdd, Int.reduceSub, Int.reduceLE, Int.reduceLT, Int.reduceEq, Int.reduceNe, Int.reduceToNat, Int.reduceNeg, reduceIte, reduceCtorEq, wrap_i64 _ w1, eq_true c1, wrap_i64 _ w2, eq_true w3]
      exact retQ_back (.inl rfl) (r1 ++ (ofBytes ([IntKind.u8.wrap (48 + (a0_.tmod 10))] : List Int))) _ rfl (Shift.refl _ _) H.sub hm
    · replace hm := ifn hm c1
      simp (maxSteps := 4000000) -implicitDefEqProofs (disch := omega) only [push_cast, Nat.reduceAdd, Nat.reduceLeDiff, Nat.reduceMul, Nat.reduceSub, Nat.reduceLT, Nat.reduceEqDiff, Int.reduceAdd, Int.reduceSub, Int.reduceLE, Int.reduceLT, Int.reduceEq, Int.reduceNe, Int.reduceToNat, Int.reduceNeg, reduceIte, reduceCtorEq, wrap_i64 _ w1, eq_false c1]
      exact retQ_back (.inl rfl) (ofBytes ([IntKind.u8.wrap (48 + (a0_.tmod 10))] : List Int)) _ rfl (Shift.refl _ _) H.sub hm
theorem stylusref16_Digits.ok {a0_ : Int} {Q : ByteArray → Prop} (hm : stylusref16_Digits.w a0_ Q) (h0 : Hp) : ACalls Tryd.prog n_stylusref16_Digits [(aint a0_)] h0 (Back h0 (fun r => (astr r)) Q) := hm.elim fun k hk => stylusref16_Digits.okn k a0_ Q hk h0
/-! stylus/stylusref35.Write -/
abbrev n_stylusref35_Write : Nat := 13
noncomputable def code_stylusref35_Write : Code := match Tryd.f13.body with | some c => c | none => .skip
def ann_stylusref35_Write : Nat → Ann
  | 8 => { pure := [4, 10], plan := (.op 0 (.op 1 (.op 2 (.op 3 (.op 4 (.op 5 (.op 6 (.op 7 (.op 8 (.op 9 (.op 10 (.op 11 (.op 12 (.op 13 .done)))))))))))))), ghost := false, post := false }
  | _ => {}
noncomputable def ac_stylusref35_Write : AC :=
  (.seq (.reg [⟨some 1, (Op.box 25 (Operand.tmp 0)), none, false⟩, ⟨some 2, (Op.assign (Operand.const (Value.string (ByteArray.mk #[])))), none, false⟩, ⟨some 3, (Op.assign (Operand.const (Value.int IntKind.i64 0))), none, false⟩]) (.seq (.seq (.reg [⟨some 8, (Op.load 25 (Operand.tmp 1)), none, false⟩, ⟨some 9, (Op.call (Call.mk (Callee.value (Operand.func 28)) #[(Operand.tmp 8)] #[25])), none, false⟩, ⟨some 10, (Op.unOp UnOp.not 4 (Operand.tmp 9)), none, false⟩]) (.cond (Operand.tmp 10) (.seq (.reg [⟨some 2, (Op.assign (Operand.const (Value.string (ByteArray.mk #[])))), none, false⟩, ⟨some 3, (Op.assign (Operand.const (Value.int IntKind.i64 1))), none, false⟩]) .ret) .skip)) (.seq (.reg [⟨some 11, (Op.fieldAddr 25 (Operand.tmp 1) 0), none, false⟩, ⟨some 12, (Op.load 3 (Operand.tmp 11)), none, false⟩, ⟨some 13, (Op.call (Call.mk (Callee.value (Operand.func 29)) #[(Operand.tmp 12)] #[3])), none, false⟩, ⟨some 14, (Op.binOp BinOp.add 9 (Operand.const (Value.string (ByteArray.mk #[112, 97, 103, 101, 115, 32]))) (Operand.tmp 13) 9), none, false⟩, ⟨some 15, (Op.binOp BinOp.add 9 (Operand.tmp 14) (Operand.const (Value.string (ByteArray.mk #[10]))) 9), none, false⟩, ⟨some 4, (Op.assign (Operand.tmp 15)), none, false⟩]) (.seq (.seq (.reg [⟨some 5, (Op.assign (Operand.const (Value.int IntKind.i64 0))), none, false⟩]) (.block 0 (.loop (.seq (.seq (.reg [⟨some 16, (Op.move (Operand.tmp 5)), none, false⟩, ⟨some 17, (Op.fieldAddr 25 (Operand.tmp 1) 1), none, false⟩, ⟨some 18, (Op.load 23 (Operand.tmp 17)), none, false⟩, ⟨some 19, (Op.call (Call.mk (Callee.builtin Builtin.len) #[(Operand.tmp 18)] #[23])), none, false⟩, ⟨some 20, (Op.binOp BinOp.lss 3 (Operand.tmp 16) (Operand.tmp 19) 3), none, false⟩]) (.cond (Operand.tmp 20) .skip (.exit 0))) (.seq (.block 1 (.seq (.reg [⟨some 23, (Op.fieldAddr 25 (Operand.tmp 1) 1), none, false⟩, ⟨some 24, (Op.load 23 (Operand.tmp 23)), none, false⟩, ⟨some 25, (Op.move (Operand.tmp 5)), none, false⟩, ⟨some 26, (Op.indexAddr 23 (Operand.tmp 24) (Operand.tmp 25)), none, false⟩, ⟨some 27, (Op.load 40 (Operand.tmp 26)), none, false⟩, ⟨some 6, (Op.alloc 40), none, false⟩, ⟨none, (Op.store 40 (Operand.tmp 6) (Operand.tmp 27)), none, false⟩]) (.seq (.draw [⟨some 28, (Op.move (Operand.tmp 4)), none, false⟩, ⟨some 29, (Op.binOp BinOp.add 9 (Operand.tmp 28) (Operand.const (Value.string (ByteArray.mk #[112, 97, 103, 101, 32]))) 9), none, false⟩, ⟨some 30, (Op.fieldAddr 40 (Operand.tmp 6) 0), none, false⟩, ⟨some 31, (Op.load 3 (Operand.tmp 30)), none, false⟩, ⟨some 32, (Op.call (Call.mk (Callee.value (Operand.func 29)) #[(Operand.tmp 31)] #[3])), none, true⟩, ⟨some 33, (Op.binOp BinOp.add 9 (Operand.tmp 29) (Operand.tmp 32) 9), none, false⟩, ⟨some 34, (Op.binOp BinOp.add 9 (Operand.tmp 33) (Operand.const (Value.string (ByteArray.mk #[32]))) 9), none, false⟩, ⟨some 35, (Op.fieldAddr 40 (Operand.tmp 6) 1), none, false⟩, ⟨some 36, (Op.load 38 (Operand.tmp 35)), none, false⟩, ⟨some 37, (Op.call (Call.mk (Callee.builtin Builtin.len) #[(Operand.tmp 36)] #[38])), none, false⟩, ⟨some 38, (Op.call (Call.mk (Callee.value (Operand.func 29)) #[(Operand.tmp 37)] #[3])), none, true⟩, ⟨some 39, (Op.binOp BinOp.add 9 (Operand.tmp 34) (Operand.tmp 38) 9), none, false⟩, ⟨some 40, (Op.binOp BinOp.add 9 (Operand.tmp 39) (Operand.const (Value.string (ByteArray.mk #[10]))) 9), none, false⟩, ⟨some 4, (Op.assign (Operand.tmp 40)), none, false⟩] (.op 0 (.op 1 (.op 2 (.op 3 (.op 4 (.op 5 (.op 6 (.op 7 (.op 8 (.op 9 (.op 10 (.op 11 (.op 12 (.op 13 .done))))))))))))))) (.seq (.reg [⟨some 7, (Op.assign (Operand.const (Value.int IntKind.i64 0))), none, false⟩]) (.block 2 (.loop (.seq (.seq (.reg [⟨some 41, (Op.move (Operand.tmp 7)), none, false⟩, ⟨some 42, (Op.fieldAddr 40 (Operand.tmp 6) 1), none, false⟩, ⟨some 43, (Op.load 38 (Operand.tmp 42)), none, false⟩, ⟨some 44, (Op.call (Call.mk (Callee.builtin Builtin.len) #[(Operand.tmp 43)] #[38])), none, false⟩, ⟨some 45, (Op.binOp BinOp.lss 3 (Operand.tmp 41) (Operand.tmp 44) 3), none, false⟩]) (.cond (Operand.tmp 45) .skip (.exit 2))) (.seq (.block 3 (.reg [⟨some 48, (Op.move (Operand.tmp 4)), none, false⟩, ⟨some 49, (Op.binOp BinOp.add 9 (Operand.tmp 48) (Operand.const (Value.string (ByteArray.mk #[62]))) 9), none, false⟩, ⟨some 50, (Op.fieldAddr 40 (Operand.tmp 6) 1), none, false⟩, ⟨some 51, (Op.load 38 (Operand.tmp 50)), none, false⟩, ⟨some 52, (Op.move (Operand.tmp 7)), none, false⟩, ⟨some 53, (Op.indexAddr 38 (Operand.tmp 51) (Operand.tmp 52)), none, false⟩, ⟨some 54, (Op.load 9 (Operand.tmp 53)), none, false⟩, ⟨some 55, (Op.binOp BinOp.add 9 (Operand.tmp 49) (Operand.tmp 54) 9), none, false⟩, ⟨some 56, (Op.binOp BinOp.add 9 (Operand.tmp 55) (Operand.const (Value.string (ByteArray.mk #[10]))) 9), none, false⟩, ⟨some 4, (Op.assign (Operand.tmp 56)), none, false⟩])) (.reg [⟨some 46, (Op.move (Operand.tmp 7)), none, false⟩, ⟨some 47, (Op.binOp BinOp.add 3 (Operand.tmp 46) (Operand.const (Value.int IntKind.i64 1)) 3), none, false⟩, ⟨some 7, (Op.assign (Operand.tmp 47)), none, false⟩]))))))))) (.reg [⟨some 21, (Op.move (Operand.tmp 5)), none, false⟩, ⟨some 22, (Op.binOp BinOp.add 3 (Operand.tmp 21) (Operand.const (Value.int IntKind.i64 1)) 3), none, false⟩, ⟨some 5, (Op.assign (Operand.tmp 22)), none, false⟩])))))) (.seq (.reg [⟨some 57, (Op.move (Operand.tmp 4)), none, false⟩, ⟨some 2, (Op.assign (Operand.tmp 57)), none, false⟩, ⟨some 3, (Op.assign (Operand.const (Value.int IntKind.i64 0))), none, false⟩]) .ret)))))
theorem body_stylusref35_Write : Tryd.f13.body = some code_stylusref35_Write := by kernel_rfl
theorem slim_stylusref35_Write : slim ann_stylusref35_Write code_stylusref35_Write = some ac_stylusref35_Write := by kernel_rfl
theorem name_stylusref35_Write : (Tryd.f13.name == "runtime.NumGoroutine") = false := by kernel_rfl
theorem enter_stylusref35_Write {args : List AV} {h : Hp} {Q : AE → Hp → Prop} (H : awp Tryd.prog tab ac_stylusref35_Write (retQ tab [(ResultVar.tmp 2), (ResultVar.tmp 3)] Q) ⟨args ++ List.replicate (58 - args.length) .any, h⟩) : ACalls Tryd.prog 13 args h Q :=
  acalls_of tab_ok mixed Tryd.func13 body_stylusref35_Write name_stylusref35_Write slim_stylusref35_Write rfl Tryd.ntmps13 H
/-- stylus/stylusref35.Write -/
def stylusref35_Write.w (a0_ : ApiPatch) (Q : (ByteArray × Int) → Prop) : Prop :=
  stylusref35_Told.w a0_ (fun r1 =>
    if (!r1) = true then
      Q ((ByteArray.mk #[]), 1)
    else
      stylusref16_Digits.w a0_.Pages (fun r2 =>
        ((ByteArray.mk #[112, 97, 103, 101, 115, 32]).size + r2.size ≤ 9223372036854775807) ∧
        (((ByteArray.mk #[112, 97, 103, 101, 115, 32]) ++ r2).size + (ByteArray.mk #[10]).size ≤ 9223372036854775807) ∧
        wloop (σ := ByteArray × Int) (fun ⟨a1, a2⟩ next1 =>
          if a2 < (a0_.Changes.length : Int) then
            (0 ≤ a2) ∧
            ∃ v1 : ApiChange, a0_.Changes[a2.toNat]? = some v1 ∧
            (a1.size + (ByteArray.mk #[112, 97, 103, 101, 32]).size ≤ 9223372036854775807) ∧
            ∃ r3 : ByteArray, stylusref16_Digits.w v1.Page (fun r' => r' = r3) ∧
            ((a1 ++ (ByteArray.mk #[112, 97, 103, 101, 32])).size + r3.size ≤ 9223372036854775807) ∧
            (((a1 ++ (ByteArray.mk #[112, 97, 103, 101, 32])) ++ r3).size + (ByteArray.mk #[32]).size ≤ 9223372036854775807) ∧
            ∃ r4 : ByteArray, stylusref16_Digits.w (v1.Lines.length : Int) (fun r' => r' = r4) ∧
            ((((a1 ++ (ByteArray.mk #[112, 97, 103, 101, 32])) ++ r3) ++ (ByteArray.mk #[32])).size + r4.size ≤ 9223372036854775807) ∧
            (((((a1 ++ (ByteArray.mk #[112, 97, 103, 101, 32])) ++ r3) ++ (ByteArray.mk #[32])) ++ r4).size + (ByteArray.mk #[10]).size ≤ 9223372036854775807) ∧
            wloop (σ := ByteArray × Int) (fun ⟨a3, a4⟩ next2 =>
              if a4 < (v1.Lines.length : Int) then
                (a3.size + (ByteArray.mk #[62]).size ≤ 9223372036854775807) ∧
                (0 ≤ a4) ∧
                ∃ v2 : ByteArray, v1.Lines[a4.toNat]? = some v2 ∧
                ((a3 ++ (ByteArray.mk #[62])).size + v2.size ≤ 9223372036854775807) ∧
                (((a3 ++ (ByteArray.mk #[62])) ++ v2).size + (ByteArray.mk #[10]).size ≤ 9223372036854775807) ∧
                (I64 (a4 + 1)) ∧
                next2 (((a3 ++ (ByteArray.mk #[62])) ++ v2) ++ (ByteArray.mk #[10]), a4 + 1)
              else
                (I64 (a2 + 1)) ∧
                next1 (a3, a2 + 1)) (((((a1 ++ (ByteArray.mk #[112, 97, 103, 101, 32])) ++ r3) ++ (ByteArray.mk #[32])) ++ r4) ++ (ByteArray.mk #[10]), 0)
          else
            Q (a1, 0)) (((ByteArray.mk #[112, 97, 103, 101, 115, 32]) ++ r2) ++ (ByteArray.mk #[10]), 0)))
theorem stylusref35_Write.ok {a0_ : ApiPatch} {Q : (ByteArray × Int) → Prop} (hm : stylusref35_Write.w a0_ Q) (h0 : Hp) : ACalls Tryd.prog n_stylusref35_Write [(.agg (ApiPatch.enc a0_))] h0 (Back h0 (fun r => .tup [(astr r.1), (aint r.2)]) Q) := by
  refine enter_stylusref35_Write ?_
  unfold stylusref35_Write.w at hm
  have H := AM.Own.nil h0
  simp (maxSteps := 4000000) -implicitDefEqProofs (disch := omega) only [push_cast, Nat.reduceAdd, Nat.reduceLeDiff, Nat.reduceMul, Nat.reduceSub, Nat.reduceLT, Nat.reduceEqDiff, Int.reduceAdd, Int.reduceSub, Int.reduceLE, Int.reduceLT, Int.reduceEq, Int.reduceNe, Int.reduceToNat, Int.reduceNeg, reduceIte, reduceCtorEq, ac_stylusref35_Write]
  refine H.newR (ApiPatch.enc a0_) rfl (fun b1 h1 H => ?_)
  have e0 := H.getP 0 rfl
  simp (maxSteps := 4000000) -implicitDefEqProofs (disch := omega) only [push_cast, Nat.reduceAdd, Nat.reduceLeDiff, Nat.reduceMul, Nat.reduceSub, Nat.reduceLT, Nat.reduceEqDiff, Int.reduceAdd, Int.reduceSub, Int.reduceLE, Int.reduceLT, Int.reduceEq, Int.reduceNe, Int.reduceToNat, Int.reduceNeg, reduceIte, reduceCtorEq, e0]
  refine calls_w (fun h => stylusref35_Told.ok hm h) (fun r1 hm => ?_)
  have e0 := H.getP 0 rfl
  simp (maxSteps := 4000000) -implicitDefEqProofs (disch := omega) only [push_cast, Nat.reduceAdd, Nat.reduceLeDiff, Nat.reduceMul, Nat.reduceSub, Nat.reduceLT, Nat.reduceEqDiff, Int.reduceAdd, Int.reduceSub, Int.reduceLE, Int.reduceLT, Int.reduceEq, Int.reduceNe, Int.reduceToNat, Int.reduceNeg, reduceIte, reduceCtorEq, e0]
  rw [fork_bool]
  refine ⟨fun c1 => ?_, fun c1 => ?_⟩
  · replace hm := ifp hm c1
    have e0 := H.getP 0 rfl
    simp (maxSteps := 4000000) -implicitDefEqProofs (disch := omega) only [push_cast, Nat.reduceAdd, Nat.reduceLeDiff, Nat.reduceMul, Nat.reduceSub, Nat.reduceLT, Nat.reduceEqDiff, Int.reduceAdd, Int.reduceSub, Int.reduceLE, Int.reduceLT, Int.reduceEq, Int.reduceNe, Int.reduceToNat, Int.reduceNeg, reduceIte, reduceCtorEq, c1, e0]
    exact retQ_back (.inl rfl) ((ByteArray.mk #[]), 1) _ rfl (Shift.refl _ _) H.sub hm
  · replace hm := ifn hm (by rw [c1]; exact Bool.false_ne_true)
    have e0 := H.getP 0 rfl
    simp (maxSteps := 4000000) -implicitDefEqProofs (disch := omega) only [push_cast, Nat.reduceAdd, Nat.reduceLeDiff, Nat.reduceMul, Nat.reduceSub, Nat.reduceLT, Nat.reduceEqDiff, Int.reduceAdd, Int.reduceSub, Int.reduceLE, Int.reduceLT, Int.reduceEq, Int.reduceNe, Int.reduceToNat, Int.reduceNeg, reduceIte, reduceCtorEq, c1, e0]
    refine calls_w (fun h => stylusref16_Digits.ok hm h) (fun r2 hm => ?_)
    obtain ⟨w1, hm⟩ := hm
    obtain ⟨w2, hm⟩ := hm
    have e0 := H.getP 0 rfl
    simp (maxSteps := 4000000) -implicitDefEqProofs (disch := omega) only [push_cast, Nat.reduceAdd, Nat.reduceLeDiff, Nat.reduceMul, Nat.reduceSub, Nat.reduceLT, Nat.reduceEqDiff, Int.reduceAdd, Int.reduceSub, Int.reduceLE, Int.reduceLT, Int.reduceEq, Int.reduceNe, Int.reduceToNat, Int.reduceNeg, reduceIte, reduceCtorEq, c1, eq_true w1, eq_true w2, e0]
    obtain ⟨inv1, mu1, hi1, hs1⟩ := hm
    replace H := H.perm [0] (by decide)
    refine awp_loop (σ := (ByteArray × Int) × Hp) (fun ⟨⟨a1, a2⟩, h2⟩ => ⟨(((List.replicate 58 AV.any).set 1 (.optr b1 2 0 0)).set 4 (astr a1)).set 5 (aint a2), h2⟩) (fun ⟨⟨a1, a2⟩, h2⟩ => inv1 (a1, a2) ∧ AM.Own h0 h2 [⟨(.optr b1 2 0 0), true, 2, [(ApiPatch.enc a0_)], some (25, 2)⟩]) (fun ⟨⟨a1, a2⟩, h2⟩ => mu1 (a1, a2)) ⟨(((ByteArray.mk #[112, 97, 103, 101, 115, 32]) ++ r2) ++ (ByteArray.mk #[10]), 0), h1⟩ (Retell.weak (by simp [Weak, push_cast]) (Hp.sub.refl _)) ⟨hi1, H⟩ ?_
    rintro ⟨⟨a1, a2⟩, h2⟩ ⟨hi1, H⟩
    have hm := hs1 _ hi1
    dsimp only at hm H ⊢
    have e0 := H.getP 0 rfl
    simp (maxSteps := 4000000) -implicitDefEqProofs (disch := omega) only [push_cast, Nat.reduceAdd, Nat.reduceLeDiff, Nat.reduceMul, Nat.reduceSub, Nat.reduceLT, Nat.reduceEqDiff, Int.reduceAdd, Int.reduceSub, Int.reduceLE, Int.reduceLT, Int.reduceEq, Int.reduceNe, Int.reduceToNat, Int.reduceNeg, reduceIte, reduceCtorEq, c1, eq_true w1, eq_true w2, e0]
    rw [fork_cond]
    refine ⟨fun c2 => ?_, fun c2 => ?_⟩
    · replace hm := ifp hm c2
      obtain ⟨z1, hm⟩ := hm
      obtain ⟨v1, i1, hm⟩ := hm
      have e0 := H.getP 0 rfl
      simp (maxSteps := 4000000) -implicitDefEqProofs (disch := omega) only [push_cast, Nat.reduceAdd, Nat.reduceLeDiff, Nat.reduceMul, Nat.reduceSub, Nat.reduceLT, Nat.reduceEqDiff, Int.reduceAdd, Int.reduceSub, Int.reduceLE, Int.reduceLT, Int.reduceEq, Int.reduceNe, Int.reduceToNat, Int.reduceNeg, reduceIte, reduceCtorEq, c1, eq_true w1, eq_true w2, eq_true c2, eq_true z1, i1, e0]
      refine H.newR [(aint 0), anil] rfl (fun b2 h3 H => ?_)
      have e0 := H.getP 0 rfl
      have e1 := H.getP 1 rfl
      simp (maxSteps := 4000000) -implicitDefEqProofs (disch := omega) only [push_cast, Nat.reduceAdd, Nat.reduceLeDiff, Nat.reduceMul, Nat.reduceSub, Nat.reduceLT, Nat.reduceEqDiff, Int.reduceAdd, Int.reduceSub, Int.reduceLE, Int.reduceLT, Int.reduceEq, Int.reduceNe, Int.reduceToNat, Int.reduceNeg, reduceIte, reduceCtorEq, c1, eq_true w1, eq_true w2, eq_true c2, eq_true z1, i1, e0, e1]
      refine H.stP 1 (ApiChange.enc v1) rfl rfl rfl rfl (Nat.le_of_ble_eq_true rfl) rfl (fun h4 H => ?_)
      obtain ⟨w3, hm⟩ := hm
      have e0 := H.getP 0 rfl
      have e1 := H.getP 1 rfl
      simp (maxSteps := 4000000) -implicitDefEqProofs (disch := omega) only [push_cast, Nat.reduceAdd, Nat.reduceLeDiff, Nat.reduceMul, Nat.reduceSub, Nat.reduceLT, Nat.reduceEqDiff, Int.reduceAdd, Int.reduceSub, Int.reduceLE, Int.reduceLT, Int.reduceEq, Int.reduceNe, Int.reduceToNat, Int.reduceNeg, reduceIte, reduceCtorEq, c1, eq_true w1, eq_true w2, eq_true c2, eq_true z1, i1, eq_true w3, e0, e1]
      obtain ⟨r3, g1, hm⟩ := hm
      refine pures_of _ (pure_of_back (fun h => stylusref16_Digits.ok g1 h)) ?_
      obtain ⟨w4, hm⟩ := hm
      obtain ⟨w5, hm⟩ := hm
      have e0 := H.getP 0 rfl
      have e1 := H.getP 1 rfl
      simp (maxSteps := 4000000) -implicitDefEqProofs (disch := omega) only [push_cast, Nat.reduceAdd, Nat.reduceLeDiff, Nat.reduceMul, Nat.reduceSub, Nat.reduceLT, Nat.reduceEqDiff, Int.reduceAdd, Int.reduceSub, Int.reduceLE, Int.reduceLT, Int.reduceEq, Int.reduceNe, Int.reduceToNat, Int.reduceNeg, reduceIte, reduceCtorEq, c1, eq_true w1, eq_true w2, eq_true c2, eq_true z1, i1, eq_true w3, eq_true w4, eq_true w5, e0, e1]
      obtain ⟨r4, g2, hm⟩ := hm
      refine pures_of _ (pure_of_back (fun h => stylusref16_Digits.ok g2 h)) ?_
      obtain ⟨w6, hm⟩ := hm
      obtain ⟨w7, hm⟩ := hm
      have e0 := H.getP 0 rfl
      have e1 := H.getP 1 rfl
      simp (maxSteps := 4000000) -implicitDefEqProofs (disch := omega) only [push_cast, Nat.reduceAdd, Nat.reduceLeDiff, Nat.reduceMul, Nat.reduceSub, Nat.reduceLT, Nat.reduceEqDiff, Int.reduceAdd, Int.reduceSub, Int.reduceLE, Int.reduceLT, Int.reduceEq, Int.reduceNe, Int.reduceToNat, Int.reduceNeg, reduceIte, reduceCtorEq, c1, eq_true w1, eq_true w2, eq_true c2, eq_true z1, i1, eq_true w3, eq_true w4, eq_true w5, eq_true w6, eq_true w7, e0, e1]
      obtain ⟨inv2, mu2, hi2, hs2⟩ := hm
      replace H := H.perm [0, 1] (by decide)
      refine awp_loop (σ := (ByteArray × Int) × Hp) (fun ⟨⟨a3, a4⟩, h5⟩ => ⟨(((((List.replicate 58 AV.any).set 1 (.optr b1 2 0 0)).set 4 (astr a3)).set 5 (aint a2)).set 6 (.optr b2 2 0 0)).set 7 (aint a4), h5⟩) (fun ⟨⟨a3, a4⟩, h5⟩ => inv2 (a3, a4) ∧ AM.Own h0 h5 [⟨(.optr b1 2 0 0), true, 2, [(ApiPatch.enc a0_)], some (25, 2)⟩, ⟨(.optr b2 2 0 0), true, 2, [(ApiChange.enc v1)], some (40, 2)⟩]) (fun ⟨⟨a3, a4⟩, h5⟩ => mu2 (a3, a4)) ⟨(((((a1 ++ (ByteArray.mk #[112, 97, 103, 101, 32])) ++ r3) ++ (ByteArray.mk #[32])) ++ r4) ++ (ByteArray.mk #[10]), 0), h4⟩ (Retell.weak (by simp [Weak, push_cast]) (Hp.sub.refl _)) ⟨hi2, H⟩ ?_
      rintro ⟨⟨a3, a4⟩, h5⟩ ⟨hi2, H⟩
      have hm := hs2 _ hi2
      dsimp only at hm H ⊢
      have e0 := H.getP 0 rfl
      have e1 := H.getP 1 rfl
      simp (maxSteps := 4000000) -implicitDefEqProofs (disch := omega) only [push_cast, Nat.reduceAdd, Nat.reduceLeDiff, Nat.reduceMul, Nat.reduceSub, Nat.reduceLT, Nat.reduceEqDiff, Int.reduceAdd, Int.reduceSub, Int.reduceLE, Int.reduceLT, Int.reduceEq, Int.reduceNe, Int.reduceToNat, Int.reduceNeg, reduceIte, reduceCtorEq, c1, eq_true w1, eq_true w2, eq_true c2, eq_true z1, i1, eq_true w3, eq_true w4, eq_true w5, eq_true w6, eq_true w7, e0, e1]
      rw [fork_cond]
      refine ⟨fun c3 => ?_, fun c3 => ?_⟩
      · replace hm := ifp hm c3
        obtain ⟨w8, hm⟩ := hm
        obtain ⟨z2, hm⟩ := hm
        obtain ⟨v2, i2, hm⟩ := hm
        obtain ⟨w9, hm⟩ := hm
        obtain ⟨w10, hm⟩ := hm
        obtain ⟨w11, hm⟩ := hm
        have e0 := H.getP 0 rfl
        have e1 := H.getP 1 rfl
        simp (maxSteps := 4000000) -implicitDefEqProofs (disch := omega) only [push_cast, Nat.reduceAdd, Nat.reduceLeDiff, Nat.reduceMul, Nat.reduceSub, Nat.reduceLT, Nat.reduceEqDiff, Int.reduceAdd, Int.reduceSub, Int.reduceLE, Int.reduceLT, Int.reduceEq, Int.reduceNe, Int.reduceToNat, Int.reduceNeg, reduceIte, reduceCtorEq, c1, eq_true w1, eq_true w2, eq_true c2, eq_true z1, i1, eq_true w3, eq_true w4, eq_true w5, eq_true w6, eq_true w7, eq_true c3, eq_true w8, eq_true z2, i2, eq_true w9, eq_true w10, wrap_i64 _ w11, e0, e1]
        replace H := H.perm [0, 1] (by decide)
        exact ⟨⟨(((a3 ++ (ByteArray.mk #[62])) ++ v2) ++ (ByteArray.mk #[10]), a4 + 1), h5⟩, hm.2, ⟨hm.1, H⟩, Retell.weak (by simp [Weak, push_cast]) (Hp.sub.refl _)⟩
      · replace hm := ifn hm c3
        obtain ⟨w12, hm⟩ := hm
        have e0 := H.getP 0 rfl
        have e1 := H.getP 1 rfl
        simp (maxSteps := 4000000) -implicitDefEqProofs (disch := omega) only [push_cast, Nat.reduceAdd, Nat.reduceLeDiff, Nat.reduceMul, Nat.reduceSub, Nat.reduceLT, Nat.reduceEqDiff, Int.reduceAdd, Int.reduceSub, Int.reduceLE, Int.reduceLT, Int.reduceEq, Int.reduceNe, Int.reduceToNat, Int.reduceNeg, reduceIte, reduceCtorEq, c1, eq_true w1, eq_true w2, eq_true c2, eq_true z1, i1, eq_true w3, eq_true w4, eq_true w5, eq_true w6, eq_true w7, eq_false c3, wrap_i64 _ w12, e0, e1]
        replace H := H.perm [0] (by decide)
        exact ⟨⟨(a3, a2 + 1), h5⟩, hm.2, ⟨hm.1, H⟩, Retell.weak (by simp [Weak, push_cast]) (Hp.sub.refl _)⟩
    · replace hm := ifn hm c2
      have e0 := H.getP 0 rfl
      simp (maxSteps := 4000000) -implicitDefEqProofs (disch := omega) only [push_cast, Nat.reduceAdd, Nat.reduceLeDiff, Nat.reduceMul, Nat.reduceSub, Nat.reduceLT, Nat.reduceEqDiff, Int.reduceAdd, Int.reduceSub, Int.reduceLE, Int.reduceLT, Int.reduceEq, Int.reduceNe, Int.reduceToNat, Int.reduceNeg, reduceIte, reduceCtorEq, c1, eq_true w1, eq_true w2, eq_false c2, e0]
      exact retQ_back (.inl rfl) (a1, 0) _ rfl (Shift.refl _ _) H.sub hm
/-! stylus/patch.Of -/
abbrev n_patch_Of : Nat := 9
noncomputable def code_patch_Of : Code := match Tryd.f9.body with | some c => c | none => .skip
def ann_patch_Of : Nat → Ann
  | 6 => { pure := [5], plan := (.op 0 (.op 1 (.op 2 (.op 3 (.op 4 (.op 5 (.op 6 (.op 7 (.op 8 (.op 9 (.op 10 .done))))))))))), ghost := false, post := false }
  | _ => {}
noncomputable def ac_patch_Of_c1 : AC :=
  (.seq (.reg [⟨some 18, (Op.move (Operand.tmp 6)), none, false⟩, ⟨some 19, (Op.move (Operand.tmp 0)), none, false⟩, ⟨some 20, (Op.call (Call.mk (Callee.builtin Builtin.len) #[(Operand.tmp 19)] #[22])), none, false⟩, ⟨some 21, (Op.binOp BinOp.geq 3 (Operand.tmp 18) (Operand.tmp 20) 3), none, false⟩, ⟨some 22, (Op.move (Operand.tmp 21)), none, false⟩, ⟨some 23, (Op.move (Operand.tmp 0)), (some (some 22, false)), false⟩, ⟨some 24, (Op.move (Operand.tmp 6)), (some (some 22, false)), false⟩, ⟨some 25, (Op.indexAddr 22 (Operand.tmp 23) (Operand.tmp 24)), (some (some 22, false)), false⟩, ⟨some 26, (Op.load 38 (Operand.tmp 25)), (some (some 22, false)), false⟩, ⟨some 27, (Op.move (Operand.tmp 7)), (some (some 22, false)), false⟩, ⟨some 28, (Op.call (Call.mk (Callee.value (Operand.func 19)) #[(Operand.tmp 26), (Operand.tmp 27)] #[38, 38])), (some (some 22, false)), false⟩, ⟨some 29, (Op.unOp UnOp.not 4 (Operand.tmp 28)), (some (some 22, false)), false⟩, ⟨some 30, (Op.pick (Operand.tmp 22) (Operand.const (Value.bool true)) (Operand.tmp 29)), none, false⟩]) (.cond (Operand.tmp 30) (.draw [⟨some 31, (Op.fieldAddr 25 (Operand.tmp 5) 1), none, false⟩, ⟨some 32, (Op.load 23 (Operand.tmp 31)), none, false⟩, ⟨some 33, (Op.move (Operand.tmp 6)), none, false⟩, ⟨some 34, (Op.binOp BinOp.add 3 (Operand.tmp 33) (Operand.const (Value.int IntKind.i64 1)) 3), none, false⟩, ⟨some 35, (Op.move (Operand.tmp 7)), none, false⟩, ⟨some 36, (Op.call (Call.mk (Callee.value (Operand.func 20)) #[(Operand.tmp 35)] #[38])), none, true⟩, ⟨some 37, (Op.build 40 #[(0, (Operand.tmp 34)), (1, (Operand.tmp 36))]), none, false⟩, ⟨some 38, (Op.buildSlice 23 1 #[(0, (Operand.tmp 37))]), none, false⟩, ⟨some 39, (Op.call (Call.mk (Callee.builtin Builtin.append) #[(Operand.tmp 32), (Operand.tmp 38)] #[23, 23])), none, false⟩, ⟨some 40, (Op.fieldAddr 25 (Operand.tmp 5) 1), none, false⟩, ⟨none, (Op.store 23 (Operand.tmp 40) (Operand.tmp 39)), none, false⟩] (.op 0 (.op 1 (.op 2 (.op 3 (.op 4 (.op 5 (.op 6 (.op 7 (.op 8 (.op 9 (.op 10 .done)))))))))))) .skip))
noncomputable def ac_patch_Of : AC :=
  (.seq (.reg [⟨some 4, (Op.alloc 25), none, false⟩]) (.seq (.reg [⟨some 8, (Op.move (Operand.tmp 1)), none, false⟩, ⟨some 9, (Op.call (Call.mk (Callee.builtin Builtin.len) #[(Operand.tmp 8)] #[22])), none, false⟩, ⟨some 10, (Op.build 25 #[(0, (Operand.tmp 9))]), none, false⟩, ⟨some 5, (Op.alloc 25), none, false⟩, ⟨none, (Op.store 25 (Operand.tmp 5) (Operand.tmp 10)), none, false⟩]) (.seq (.seq (.reg [⟨some 11, (Op.move (Operand.tmp 1)), none, false⟩, ⟨some 12, (Op.call (Call.mk (Callee.builtin Builtin.len) #[(Operand.tmp 11)] #[22])), none, false⟩, ⟨some 13, (Op.move (Operand.const (Value.int IntKind.i64 0))), none, false⟩]) (.block 0 (.loop (.seq (.reg [⟨some 14, (Op.binOp BinOp.lss 3 (Operand.tmp 13) (Operand.tmp 12) 3), none, false⟩]) (.seq (.cond (Operand.tmp 14) .skip (.exit 0)) (.seq (.block 1 (.seq (.reg [⟨some 15, (Op.move (Operand.tmp 13)), none, false⟩, ⟨some 16, (Op.indexAddr 22 (Operand.tmp 11) (Operand.tmp 13)), none, false⟩, ⟨some 17, (Op.load 38 (Operand.tmp 16)), none, false⟩, ⟨some 6, (Op.assign (Operand.tmp 15)), none, false⟩, ⟨some 7, (Op.assign (Operand.tmp 17)), none, false⟩]) ac_patch_Of_c1)) (.reg [⟨some 41, (Op.binOp BinOp.add 3 (Operand.tmp 13) (Operand.const (Value.int IntKind.i64 1)) 3), none, false⟩, ⟨some 13, (Op.move (Operand.tmp 41)), none, false⟩]))))))) (.seq (.reg [⟨some 42, (Op.load 25 (Operand.tmp 5)), none, false⟩, ⟨none, (Op.store 25 (Operand.tmp 4) (Operand.tmp 42)), none, false⟩]) .ret))))
theorem body_patch_Of : Tryd.f9.body = some code_patch_Of := by kernel_rfl
theorem slim_patch_Of : slim ann_patch_Of code_patch_Of = some ac_patch_Of := by kernel_rfl
theorem name_patch_Of : (Tryd.f9.name == "runtime.NumGoroutine") = false := by kernel_rfl
theorem enter_patch_Of {args : List AV} {h : Hp} {Q : AE → Hp → Prop} (H : awp Tryd.prog tab ac_patch_Of (retQ tab [(ResultVar.cell 4 25)] Q) ⟨args ++ List.replicate (43 - args.length) .any, h⟩) : ACalls Tryd.prog 9 args h Q :=
  acalls_of tab_ok mixed Tryd.func9 body_patch_Of name_patch_Of slim_patch_Of rfl Tryd.ntmps9 H
/-- stylus/patch.Of -/
def patch_Of.w (a0_ : List (List ByteArray)) (a1_ : List (List ByteArray)) (Q : ApiPatch → Prop) : Prop :=
  wloop (σ := Int × (List ApiChange) × Int × (List ApiChange) × Int) (fun ⟨a1, a2, a3, a4, a5⟩ next1 =>
    if a5 < (a1_.length : Int) then
      (0 ≤ a5) ∧
      ∃ v1 : List ByteArray, a1_[a5.toNat]? = some v1 ∧
      wcut (α := Bool) (fun k1 =>
        if (a0_.length : Int) ≤ a5 then
          k1 true
        else
          ∃ v2 : List ByteArray, a0_[a5.toNat]? = some v2 ∧
          slices_Equal_string_string.w v2 v1 (fun r1 =>
            k1 (!r1))) (fun a6 =>
        if a6 = true then
          (I64 (a5 + 1)) ∧
          ∃ r2 : List ByteArray, slices_Clone_string_string.w v1 (fun r' => r' = r2) ∧
          ((a4.length + ([(⟨a5 + 1, r2⟩ : ApiChange)] : List ApiChange).length) * 32 ≤ 140737488355328) ∧
          (I64 (a5 + 1)) ∧
          next1 (a1, a2, a3, a4 ++ ([(⟨a5 + 1, r2⟩ : ApiChange)] : List ApiChange), a5 + 1)
        else
          (I64 (a5 + 1)) ∧
          next1 (a1, a2, a3, a4, a5 + 1))
    else
      Q (⟨a3, a4⟩ : ApiPatch)) (0, ([] : List ApiChange), (a1_.length : Int), ([] : List ApiChange), 0)
theorem patch_Of.ok {a0_ : List (List ByteArray)} {a1_ : List (List ByteArray)} {Q : ApiPatch → Prop} (hm : patch_Of.w a0_ a1_ Q) (h0 : Hp) : ACalls Tryd.prog n_patch_Of [(.isl 1 (a0_.map (encSl 1 AM.encStr))), (.isl 1 (a1_.map (encSl 1 AM.encStr)))] h0 (Back h0 (fun r => (.agg (ApiPatch.enc r))) Q) := by
  refine enter_patch_Of ?_
  unfold patch_Of.w at hm
  have H := AM.Own.nil h0
  simp (maxSteps := 4000000) -implicitDefEqProofs (disch := omega) only [push_cast, Nat.reduceAdd, Nat.reduceLeDiff, Nat.reduceMul, Nat.reduceSub, Nat.reduceLT, Nat.reduceEqDiff, Int.reduceAdd, Int.reduceSub, Int.reduceLE, Int.reduceLT, Int.reduceEq, Int.reduceNe, Int.reduceToNat, Int.reduceNeg, reduceIte, reduceCtorEq, ac_patch_Of]
  refine H.newR [(aint 0), anil] rfl (fun b1 h1 H => ?_)
  have e0 := H.getP 0 rfl
  simp (maxSteps := 4000000) -implicitDefEqProofs (disch := omega) only [push_cast, Nat.reduceAdd, Nat.reduceLeDiff, Nat.reduceMul, Nat.reduceSub, Nat.reduceLT, Nat.reduceEqDiff, Int.reduceAdd, Int.reduceSub, Int.reduceLE, Int.reduceLT, Int.reduceEq, Int.reduceNe, Int.reduceToNat, Int.reduceNeg, reduceIte, reduceCtorEq, e0]
  refine H.newR [(aint 0), anil] rfl (fun b2 h2 H => ?_)
  have e0 := H.getP 0 rfl
  have e1 := H.getP 1 rfl
  simp (maxSteps := 4000000) -implicitDefEqProofs (disch := omega) only [push_cast, Nat.reduceAdd, Nat.reduceLeDiff, Nat.reduceMul, Nat.reduceSub, Nat.reduceLT, Nat.reduceEqDiff, Int.reduceAdd, Int.reduceSub, Int.reduceLE, Int.reduceLT, Int.reduceEq, Int.reduceNe, Int.reduceToNat, Int.reduceNeg, reduceIte, reduceCtorEq, e0, e1]
  refine H.stP 1 [(aint (a1_.length : Int)), anil] rfl rfl rfl rfl (Nat.le_of_ble_eq_true rfl) rfl (fun h3 H => ?_)
  have e0 := H.getP 0 rfl
  have e1 := H.getP 1 rfl
  simp (maxSteps := 4000000) -implicitDefEqProofs (disch := omega) only [push_cast, Nat.reduceAdd, Nat.reduceLeDiff, Nat.reduceMul, Nat.reduceSub, Nat.reduceLT, Nat.reduceEqDiff, Int.reduceAdd, Int.reduceSub, Int.reduceLE, Int.reduceLT, Int.reduceEq, Int.reduceNe, Int.reduceToNat, Int.reduceNeg, reduceIte, reduceCtorEq, e0, e1]
  obtain ⟨inv1, mu1, hi1, hs1⟩ := hm
  replace H := H.addNil 2 (some (40, 0))
  replace H := H.addNil 2 (some (40, 0))
  replace H := H.perm [0, 1, 2, 3] (by decide)
  refine awp_loop (σ := (Int × (List ApiChange) × Int × (List ApiChange) × Int) × AV × AV × Hp) (fun ⟨⟨a1, a2, a3, a4, a5⟩, x1, x2, h4⟩ => ⟨((((((List.replicate 43 AV.any).set 0 (.isl 1 (a0_.map (encSl 1 AM.encStr)))).set 4 (.optr b1 2 0 0)).set 5 (.optr b2 2 0 0)).set 11 (.isl 1 (a1_.map (encSl 1 AM.encStr)))).set 12 (aint (a1_.length : Int))).set 13 (aint a5), h4⟩) (fun ⟨⟨a1, a2, a3, a4, a5⟩, x1, x2, h4⟩ => inv1 (a1, a2, a3, a4, a5) ∧ AM.Own h0 h4 [⟨(.optr b1 2 0 0), true, 2, [[(aint a1), x1]], some (25, 2)⟩, ⟨(.optr b2 2 0 0), true, 2, [[(aint a3), x2]], some (25, 2)⟩, ⟨x1, false, 2, a2.map ApiChange.enc, some (40, 0)⟩, ⟨x2, false, 2, a4.map ApiChange.enc, some (40, 0)⟩]) (fun ⟨⟨a1, a2, a3, a4, a5⟩, x1, x2, h4⟩ => mu1 (a1, a2, a3, a4, a5)) ⟨(0, ([] : List ApiChange), (a1_.length : Int), ([] : List ApiChange), 0), anil, anil, h3⟩ (Retell.weak (by simp [Weak, push_cast]) (Hp.sub.refl _)) ⟨hi1, H⟩ ?_
  rintro ⟨⟨a1, a2, a3, a4, a5⟩, x1, x2, h4⟩ ⟨hi1, H⟩
  have hm := hs1 _ hi1
  dsimp only at hm H ⊢
  have e0 := H.getP 0 rfl
  have e1 := H.getP 1 rfl
  simp (maxSteps := 4000000) -implicitDefEqProofs (disch := omega) only [push_cast, Nat.reduceAdd, Nat.reduceLeDiff, Nat.reduceMul, Nat.reduceSub, Nat.reduceLT, Nat.reduceEqDiff, Int.reduceAdd, Int.reduceSub, Int.reduceLE, Int.reduceLT, Int.reduceEq, Int.reduceNe, Int.reduceToNat, Int.reduceNeg, reduceIte, reduceCtorEq, e0, e1]
  rw [fork_cond]
  refine ⟨fun c1 => ?_, fun c1 => ?_⟩
  · replace hm := ifp hm c1
    obtain ⟨z1, hm⟩ := hm
    obtain ⟨v1, i1, hm⟩ := hm
    have e0 := H.getP 0 rfl
    have e1 := H.getP 1 rfl
    simp (maxSteps := 4000000) -implicitDefEqProofs (disch := omega) only [push_cast, Nat.reduceAdd, Nat.reduceLeDiff, Nat.reduceMul, Nat.reduceSub, Nat.reduceLT, Nat.reduceEqDiff, Int.reduceAdd, Int.reduceSub, Int.reduceLE, Int.reduceLT, Int.reduceEq, Int.reduceNe, Int.reduceToNat, Int.reduceNeg, reduceIte, reduceCtorEq, eq_true c1, eq_true z1, i1, e0, e1]
    obtain ⟨k1, hm, hk1⟩ := wcut_elim hm
    refine awp_cut (fun s' => ∃ (a6 : Bool) (h5 : Hp), Like s'.tm ((((((((((List.replicate 43 none).set 0 (some (.isl 1 (a0_.map (encSl 1 AM.encStr))))).set 4 (some (.optr b1 2 0 0))).set 5 (some (.optr b2 2 0 0))).set 6 (some (aint a5))).set 7 (some (.isl 1 (v1.map AM.encStr)))).set 11 (some (.isl 1 (a1_.map (encSl 1 AM.encStr))))).set 12 (some (aint (a1_.length : Int)))).set 13 (some (aint a5))).set 30 (some (abool a6))) ∧ s'.h = h5 ∧ AM.Own h0 h5 [⟨(.optr b1 2 0 0), true, 2, [[(aint a1), x1]], some (25, 2)⟩, ⟨(.optr b2 2 0 0), true, 2, [[(aint a3), x2]], some (25, 2)⟩, ⟨x1, false, 2, a2.map ApiChange.enc, some (40, 0)⟩, ⟨x2, false, 2, a4.map ApiChange.enc, some (40, 0)⟩] ∧ k1 a6) ?_ ?_
    · have e0 := H.getP 0 rfl
      have e1 := H.getP 1 rfl
      simp (maxSteps := 4000000) -implicitDefEqProofs (disch := omega) only [push_cast, Nat.reduceAdd, Nat.reduceLeDiff, Nat.reduceMul, Nat.reduceSub, Nat.reduceLT, Nat.reduceEqDiff, Int.reduceAdd, Int.reduceSub, Int.reduceLE, Int.reduceLT, Int.reduceEq, Int.reduceNe, Int.reduceToNat, Int.reduceNeg, reduceIte, reduceCtorEq, eq_true c1, eq_true z1, i1, e0, e1]
      rw [gfork_cond']
      refine ⟨fun c2 => ?_, fun c2 => ?_⟩
      · replace hm := ifp hm c2
        have e0 := H.getP 0 rfl
        have e1 := H.getP 1 rfl
        simp (maxSteps := 4000000) -implicitDefEqProofs (disch := omega) only [push_cast, Nat.reduceAdd, Nat.reduceLeDiff, Nat.reduceMul, Nat.reduceSub, Nat.reduceLT, Nat.reduceEqDiff, Int.reduceAdd, Int.reduceSub, Int.reduceLE, Int.reduceLT, Int.reduceEq, Int.reduceNe, Int.reduceToNat, Int.reduceNeg, reduceIte, reduceCtorEq, eq_true c1, eq_true z1, i1, eq_true c2, e0, e1]
        replace H := H.perm [0, 1, 2, 3] (by decide)
        exact ⟨true, h4, by simp [Like, push_cast], rfl, H, hm⟩
      · replace hm := ifn hm c2
        obtain ⟨v2, i2, hm⟩ := hm
        have e0 := H.getP 0 rfl
        have e1 := H.getP 1 rfl
        simp (maxSteps := 4000000) -implicitDefEqProofs (disch := omega) only [push_cast, Nat.reduceAdd, Nat.reduceLeDiff, Nat.reduceMul, Nat.reduceSub, Nat.reduceLT, Nat.reduceEqDiff, Int.reduceAdd, Int.reduceSub, Int.reduceLE, Int.reduceLT, Int.reduceEq, Int.reduceNe, Int.reduceToNat, Int.reduceNeg, reduceIte, reduceCtorEq, eq_true c1, eq_true z1, i1, eq_false c2, i2, e0, e1]
        refine calls_w (fun h => slices_Equal_string_string.ok hm h) (fun r1 hm => ?_)
        have e0 := H.getP 0 rfl
        have e1 := H.getP 1 rfl
        simp (maxSteps := 4000000) -implicitDefEqProofs (disch := omega) only [push_cast, Nat.reduceAdd, Nat.reduceLeDiff, Nat.reduceMul, Nat.reduceSub, Nat.reduceLT, Nat.reduceEqDiff, Int.reduceAdd, Int.reduceSub, Int.reduceLE, Int.reduceLT, Int.reduceEq, Int.reduceNe, Int.reduceToNat, Int.reduceNeg, reduceIte, reduceCtorEq, eq_true c1, eq_true z1, i1, eq_false c2, i2, e0, e1]
        replace H := H.perm [0, 1, 2, 3] (by decide)
        exact ⟨!r1, h4, by simp [Like, push_cast], rfl, H, hm⟩
    · rintro ⟨tm, h5⟩ ⟨a6, _, hL, rfl, H, hm⟩
      dsimp only at hL H
      obtain ⟨D, rfl⟩ := hL.fill 0
      replace hm := hk1 _ hm
      have e0 := H.getP 0 rfl
      have e1 := H.getP 1 rfl
      simp (maxSteps := 4000000) -implicitDefEqProofs (disch := omega) only [push_cast, Nat.reduceAdd, Nat.reduceLeDiff, Nat.reduceMul, Nat.reduceSub, Nat.reduceLT, Nat.reduceEqDiff, Int.reduceAdd, Int.reduceSub, Int.reduceLE, Int.reduceLT, Int.reduceEq, Int.reduceNe, Int.reduceToNat, Int.reduceNeg, reduceIte, reduceCtorEq, eq_true c1, eq_true z1, i1, e0, e1]
      rw [fork_bool]
      refine ⟨fun c3 => ?_, fun c3 => ?_⟩
      · replace hm := ifp hm c3
        obtain ⟨w1, hm⟩ := hm
        have e0 := H.getP 0 rfl
        have e1 := H.getP 1 rfl
        simp (maxSteps := 4000000) -implicitDefEqProofs (disch := omega) only [push_cast, Nat.reduceAdd, Nat.reduceLeDiff, Nat.reduceMul, Nat.reduceSub, Nat.reduceLT, Nat.reduceEqDiff, Int.reduceAdd, Int.reduceSub, Int.reduceLE, Int.reduceLT, Int.reduceEq, Int.reduceNe, Int.reduceToNat, Int.reduceNeg, reduceIte, reduceCtorEq, eq_true c1, eq_true z1, i1, c3, wrap_i64 _ w1, e0, e1]
        obtain ⟨r2, g1, hm⟩ := hm
        refine pures_of _ (pure_of_back (fun h => slices_Clone_string_string.ok g1 h)) ?_
        have e0 := H.getP 0 rfl
        have e1 := H.getP 1 rfl
        simp (maxSteps := 4000000) -implicitDefEqProofs (disch := omega) only [push_cast, Nat.reduceAdd, Nat.reduceLeDiff, Nat.reduceMul, Nat.reduceSub, Nat.reduceLT, Nat.reduceEqDiff, Int.reduceAdd, Int.reduceSub, Int.reduceLE, Int.reduceLT, Int.reduceEq, Int.reduceNe, Int.reduceToNat, Int.reduceNeg, reduceIte, reduceCtorEq, eq_true c1, eq_true z1, i1, c3, wrap_i64 _ w1, e0, e1]
        refine H.newL (E := ApiChange.enc) ([(⟨a5 + 1, r2⟩ : ApiChange)] : List ApiChange) rfl rfl (fun b3 h6 H => ?_)
        have e0 := H.getP 0 rfl
        have e1 := H.getP 1 rfl
        simp (maxSteps := 4000000) -implicitDefEqProofs (disch := omega) only [push_cast, Nat.reduceAdd, Nat.reduceLeDiff, Nat.reduceMul, Nat.reduceSub, Nat.reduceLT, Nat.reduceEqDiff, Int.reduceAdd, Int.reduceSub, Int.reduceLE, Int.reduceLT, Int.reduceEq, Int.reduceNe, Int.reduceToNat, Int.reduceNeg, reduceIte, reduceCtorEq, eq_true c1, eq_true z1, i1, c3, wrap_i64 _ w1, H.src (e := 40) 4 rfl, e0, e1]
        obtain ⟨w2, hm⟩ := hm
        refine H.appL (E := ApiChange.enc) 3 ([(⟨a5 + 1, r2⟩ : ApiChange)] : List ApiChange) rfl rfl rfl (by decide) (by decide) w2 (fun x3 h7 H => ?_)
        have e0 := H.getP 0 rfl
        have e1 := H.getP 1 rfl
        simp (maxSteps := 4000000) -implicitDefEqProofs (disch := omega) only [push_cast, Nat.reduceAdd, Nat.reduceLeDiff, Nat.reduceMul, Nat.reduceSub, Nat.reduceLT, Nat.reduceEqDiff, Int.reduceAdd, Int.reduceSub, Int.reduceLE, Int.reduceLT, Int.reduceEq, Int.reduceNe, Int.reduceToNat, Int.reduceNeg, reduceIte, reduceCtorEq, eq_true c1, eq_true z1, i1, c3, wrap_i64 _ w1, e0, e1]
        refine H.stP 1 [(aint a3), x3] rfl (H.ok 3 rfl).1 (H.ok 3 rfl).2 rfl (Nat.le_of_ble_eq_true rfl) rfl (fun h8 H => ?_)
        obtain ⟨w3, hm⟩ := hm
        have e0 := H.getP 0 rfl
        have e1 := H.getP 1 rfl
        simp (maxSteps := 4000000) -implicitDefEqProofs (disch := omega) only [push_cast, Nat.reduceAdd, Nat.reduceLeDiff, Nat.reduceMul, Nat.reduceSub, Nat.reduceLT, Nat.reduceEqDiff, Int.reduceAdd, Int.reduceSub, Int.reduceLE, Int.reduceLT, Int.reduceEq, Int.reduceNe, Int.reduceToNat, Int.reduceNeg, reduceIte, reduceCtorEq, eq_true c1, eq_true z1, i1, c3, wrap_i64 _ w1, wrap_i64 _ w3, e0, e1]
        replace H := H.perm [0, 1, 2, 3] (by decide)
        exact ⟨⟨(a1, a2, a3, a4 ++ ([(⟨a5 + 1, r2⟩ : ApiChange)] : List ApiChange), a5 + 1), x1, x3, h8⟩, hm.2, ⟨hm.1, H⟩, Retell.weak (by simp [Weak, push_cast]) (Hp.sub.refl _)⟩
      · replace hm := ifn hm (by rw [c3]; exact Bool.false_ne_true)
        obtain ⟨w4, hm⟩ := hm
        have e0 := H.getP 0 rfl
        have e1 := H.getP 1 rfl
        simp (maxSteps := 4000000) -implicitDefEqProofs (disch := omega) only [push_cast, Nat.reduceAdd, Nat.reduceLeDiff, Nat.reduceMul, Nat.reduceSub, Nat.reduceLT, Nat.reduceEqDiff, Int.reduceAdd, Int.reduceSub, Int.reduceLE, Int.reduceLT, Int.reduceEq, Int.reduceNe, Int.reduceToNat, Int.reduceNeg, reduceIte, reduceCtorEq, eq_true c1, eq_true z1, i1, c3, wrap_i64 _ w4, e0, e1]
        replace H := H.perm [0, 1, 2, 3] (by decide)
        exact ⟨⟨(a1, a2, a3, a4, a5 + 1), x1, x2, h5⟩, hm.2, ⟨hm.1, H⟩, Retell.weak (by simp [Weak, push_cast]) (Hp.sub.refl _)⟩
  · replace hm := ifn hm c1
    have e0 := H.getP 0 rfl
    have e1 := H.getP 1 rfl
    simp (maxSteps := 4000000) -implicitDefEqProofs (disch := omega) only [push_cast, Nat.reduceAdd, Nat.reduceLeDiff, Nat.reduceMul, Nat.reduceSub, Nat.reduceLT, Nat.reduceEqDiff, Int.reduceAdd, Int.reduceSub, Int.reduceLE, Int.reduceLT, Int.reduceEq, Int.reduceNe, Int.reduceToNat, Int.reduceNeg, reduceIte, reduceCtorEq, eq_false c1, e0, e1]
    refine H.stP 0 [(aint a3), x2] rfl rfl rfl rfl (Nat.le_of_ble_eq_true rfl) rfl (fun h9 H => ?_)
    have e0 := H.getP 0 rfl
    have e1 := H.getP 1 rfl
    simp (maxSteps := 4000000) -implicitDefEqProofs (disch := omega) only [push_cast, Nat.reduceAdd, Nat.reduceLeDiff, Nat.reduceMul, Nat.reduceSub, Nat.reduceLT, Nat.reduceEqDiff, Int.reduceAdd, Int.reduceSub, Int.reduceLE, Int.reduceLT, Int.reduceEq, Int.reduceNe, Int.reduceToNat, Int.reduceNeg, reduceIte, reduceCtorEq, eq_false c1, e0, e1]
    have e0 := H.getP 0 rfl
    have e1 := H.getP 1 rfl
    obtain ⟨h10, s1, H⟩ := H.freeze 3 rfl
    exact retQ_back (.inl rfl) (⟨a3, a4⟩ : ApiPatch) (.agg [(aint a3), x2]) (by simp [aResults, resAll, resOne, push_cast, e0, e1]) (Shift.agg s1 [_] []) H.sub hm
/-! (*stylus/patch.book).page -/
abbrev n_patch_book_page : Nat := 21
noncomputable def code_patch_book_page : Code := match Tryd.f21.body with | some c => c | none => .skip
def ann_patch_book_page : Nat → Ann
  | 3 => { pure := [13], plan := (.op 0 (.op 1 (.op 2 (.op 3 (.op 4 (.op 5 (.op 6 (.op 7 (.op 8 (.op 9 (.op 10 (.op 11 (.op 12 (.op 13 (.op 14 (.op 15 (.op 16 (.op 17 (.op 18 .done))))))))))))))))))), ghost := false, post := false }
  | 8 => { pure := [9], plan := (.op 0 (.op 1 (.op 2 (.op 3 (.op 4 (.op 5 (.op 6 (.op 7 (.op 8 (.op 9 (.op 10 (.op 11 (.op 12 (.op 13 (.op 14 .done))))))))))))))), ghost := false, post := false }
  | _ => {}
noncomputable def ac_patch_book_page_c1 : AC :=
  (.seq (.reg [⟨some 11, (Op.move (Operand.tmp 0)), none, false⟩, ⟨some 12, (Op.nilCheck (Operand.tmp 11)), none, false⟩, ⟨some 13, (Op.fieldAddr 47 (Operand.tmp 12) 0), none, false⟩, ⟨some 14, (Op.fieldAddr 25 (Operand.tmp 13) 1), none, false⟩, ⟨some 15, (Op.load 23 (Operand.tmp 14)), none, false⟩, ⟨some 16, (Op.call (Call.mk (Callee.builtin Builtin.len) #[(Operand.tmp 15)] #[23])), none, false⟩, ⟨some 17, (Op.binOp BinOp.gtr 3 (Operand.tmp 16) (Operand.const (Value.int IntKind.i64 0)) 3), none, false⟩, ⟨some 18, (Op.move (Operand.tmp 17)), none, false⟩, ⟨some 19, (Op.move (Operand.tmp 0)), (some (some 18, true)), false⟩, ⟨some 20, (Op.nilCheck (Operand.tmp 19)), (some (some 18, true)), false⟩, ⟨some 21, (Op.fieldAddr 47 (Operand.tmp 20) 0), (some (some 18, true)), false⟩, ⟨some 22, (Op.fieldAddr 25 (Operand.tmp 21) 1), (some (some 18, true)), false⟩, ⟨some 23, (Op.load 23 (Operand.tmp 22)), (some (some 18, true)), false⟩, ⟨some 24, (Op.indexAddr 23 (Operand.tmp 23) (Operand.const (Value.int IntKind.i64 0))), (some (some 18, true)), false⟩, ⟨some 25, (Op.fieldAddr 40 (Operand.tmp 24) 0), (some (some 18, true)), false⟩, ⟨some 26, (Op.load 3 (Operand.tmp 25)), (some (some 18, true)), false⟩, ⟨some 27, (Op.move (Operand.tmp 5)), (some (some 18, true)), false⟩, ⟨some 28, (Op.binOp BinOp.add 3 (Operand.tmp 27) (Operand.const (Value.int IntKind.i64 1)) 3), (some (some 18, true)), false⟩, ⟨some 29, (Op.binOp BinOp.eql 3 (Operand.tmp 26) (Operand.tmp 28) 3), (some (some 18, true)), false⟩, ⟨some 30, (Op.pick (Operand.tmp 18) (Operand.tmp 29) (Operand.const (Value.bool false))), none, false⟩]) (.cond (Operand.tmp 30) (.seq (.draw [⟨some 31, (Op.move (Operand.tmp 0)), none, false⟩, ⟨some 32, (Op.move (Operand.tmp 0)), none, false⟩, ⟨some 33, (Op.nilCheck (Operand.tmp 32)), none, false⟩, ⟨some 34, (Op.fieldAddr 47 (Operand.tmp 33) 1), none, false⟩, ⟨some 35, (Op.load 22 (Operand.tmp 34)), none, false⟩, ⟨some 36, (Op.move (Operand.tmp 0)), none, false⟩, ⟨some 37, (Op.nilCheck (Operand.tmp 36)), none, false⟩, ⟨some 38, (Op.fieldAddr 47 (Operand.tmp 37) 0), none, false⟩, ⟨some 39, (Op.fieldAddr 25 (Operand.tmp 38) 1), none, false⟩, ⟨some 40, (Op.load 23 (Operand.tmp 39)), none, false⟩, ⟨some 41, (Op.indexAddr 23 (Operand.tmp 40) (Operand.const (Value.int IntKind.i64 0))), none, false⟩, ⟨some 42, (Op.fieldAddr 40 (Operand.tmp 41) 1), none, false⟩, ⟨some 43, (Op.load 38 (Operand.tmp 42)), none, false⟩, ⟨some 44, (Op.call (Call.mk (Callee.value (Operand.func 20)) #[(Operand.tmp 43)] #[38])), none, true⟩, ⟨some 45, (Op.buildSlice 22 1 #[(0, (Operand.tmp 44))]), none, false⟩, ⟨some 46, (Op.call (Call.mk (Callee.builtin Builtin.append) #[(Operand.tmp 35), (Operand.tmp 45)] #[22, 22])), none, false⟩, ⟨some 47, (Op.nilCheck (Operand.tmp 31)), none, false⟩, ⟨some 48, (Op.fieldAddr 47 (Operand.tmp 47) 1), none, false⟩, ⟨none, (Op.store 22 (Operand.tmp 48) (Operand.tmp 46)), none, false⟩] (.op 0 (.op 1 (.op 2 (.op 3 (.op 4 (.op 5 (.op 6 (.op 7 (.op 8 (.op 9 (.op 10 (.op 11 (.op 12 (.op 13 (.op 14 (.op 15 (.op 16 (.op 17 (.op 18 .done)))))))))))))))))))) (.seq (.reg [⟨some 49, (Op.move (Operand.tmp 0)), none, false⟩, ⟨some 50, (Op.move (Operand.tmp 0)), none, false⟩, ⟨some 51, (Op.nilCheck (Operand.tmp 50)), none, false⟩, ⟨some 52, (Op.fieldAddr 47 (Operand.tmp 51) 0), none, false⟩, ⟨some 53, (Op.fieldAddr 25 (Operand.tmp 52) 1), none, false⟩, ⟨some 54, (Op.load 23 (Operand.tmp 53)), none, false⟩, ⟨some 55, (Op.slice 23 (Operand.tmp 54) (some (Operand.const (Value.int IntKind.i64 1))) none none), none, false⟩, ⟨some 56, (Op.nilCheck (Operand.tmp 49)), none, false⟩, ⟨some 57, (Op.fieldAddr 47 (Operand.tmp 56) 0), none, false⟩, ⟨some 58, (Op.fieldAddr 25 (Operand.tmp 57) 1), none, false⟩, ⟨none, (Op.store 23 (Operand.tmp 58) (Operand.tmp 55)), none, false⟩]) (.seq (.reg [⟨some 4, (Op.assign (Operand.const (Value.bool true))), none, false⟩]) .ret))) .skip))
noncomputable def ac_patch_book_page : AC :=
  (.seq (.reg [⟨some 4, (Op.assign (Operand.const (Value.bool false))), none, false⟩]) (.seq (.reg [⟨some 6, (Op.move (Operand.tmp 0)), none, false⟩, ⟨some 7, (Op.nilCheck (Operand.tmp 6)), none, false⟩, ⟨some 8, (Op.fieldAddr 47 (Operand.tmp 7) 1), none, false⟩, ⟨some 9, (Op.load 22 (Operand.tmp 8)), none, false⟩, ⟨some 10, (Op.call (Call.mk (Callee.builtin Builtin.len) #[(Operand.tmp 9)] #[22])), none, false⟩, ⟨some 5, (Op.assign (Operand.tmp 10)), none, false⟩]) (.seq ac_patch_book_page_c1 (.seq (.seq (.reg [⟨some 59, (Op.move (Operand.tmp 5)), none, false⟩, ⟨some 60, (Op.move (Operand.tmp 1)), none, false⟩, ⟨some 61, (Op.call (Call.mk (Callee.builtin Builtin.len) #[(Operand.tmp 60)] #[22])), none, false⟩, ⟨some 62, (Op.binOp BinOp.geq 3 (Operand.tmp 59) (Operand.tmp 61) 3), none, false⟩]) (.cond (Operand.tmp 62) (.seq (.reg [⟨some 4, (Op.assign (Operand.const (Value.bool false))), none, false⟩]) .ret) .skip)) (.seq (.draw [⟨some 63, (Op.move (Operand.tmp 0)), none, false⟩, ⟨some 64, (Op.move (Operand.tmp 0)), none, false⟩, ⟨some 65, (Op.nilCheck (Operand.tmp 64)), none, false⟩, ⟨some 66, (Op.fieldAddr 47 (Operand.tmp 65) 1), none, false⟩, ⟨some 67, (Op.load 22 (Operand.tmp 66)), none, false⟩, ⟨some 68, (Op.move (Operand.tmp 1)), none, false⟩, ⟨some 69, (Op.move (Operand.tmp 5)), none, false⟩, ⟨some 70, (Op.indexAddr 22 (Operand.tmp 68) (Operand.tmp 69)), none, false⟩, ⟨some 71, (Op.load 38 (Operand.tmp 70)), none, false⟩, ⟨some 72, (Op.call (Call.mk (Callee.value (Operand.func 20)) #[(Operand.tmp 71)] #[38])), none, true⟩, ⟨some 73, (Op.buildSlice 22 1 #[(0, (Operand.tmp 72))]), none, false⟩, ⟨some 74, (Op.call (Call.mk (Callee.builtin Builtin.append) #[(Operand.tmp 67), (Operand.tmp 73)] #[22, 22])), none, false⟩, ⟨some 75, (Op.nilCheck (Operand.tmp 63)), none, false⟩, ⟨some 76, (Op.fieldAddr 47 (Operand.tmp 75) 1), none, false⟩, ⟨none, (Op.store 22 (Operand.tmp 76) (Operand.tmp 74)), none, false⟩] (.op 0 (.op 1 (.op 2 (.op 3 (.op 4 (.op 5 (.op 6 (.op 7 (.op 8 (.op 9 (.op 10 (.op 11 (.op 12 (.op 13 (.op 14 .done)))))))))))))))) (.seq (.reg [⟨some 4, (Op.assign (Operand.const (Value.bool true))), none, false⟩]) .ret))))))
theorem body_patch_book_page : Tryd.f21.body = some code_patch_book_page := by kernel_rfl
theorem slim_patch_book_page : slim ann_patch_book_page code_patch_book_page = some ac_patch_book_page := by kernel_rfl
theorem name_patch_book_page : (Tryd.f21.name == "runtime.NumGoroutine") = false := by kernel_rfl
theorem enter_patch_book_page {args : List AV} {h : Hp} {Q : AE → Hp → Prop} (H : awp Tryd.prog tab ac_patch_book_page (retQ tab [(ResultVar.tmp 4)] Q) ⟨args ++ List.replicate (77 - args.length) .any, h⟩) : ACalls Tryd.prog 21 args h Q :=
  acalls_of tab_ok mixed Tryd.func21 body_patch_book_page name_patch_book_page slim_patch_book_page rfl Tryd.ntmps21 H
/-- (*stylus/patch.book).page, with what it is handed -/
def patch_book_page_i0.w (a0_ : List (List ByteArray)) (c0_0_ : ApiPatch) (c0_1_ : List (List ByteArray)) (Q : Bool → ApiPatch → (List (List ByteArray)) → Prop) : Prop :=
  wcut (α := Bool) (fun k1 =>
    if 0 < (c0_0_.Changes.length : Int) then
      ∃ v1 : ApiChange, c0_0_.Changes[0]? = some v1 ∧
      (I64 ((c0_1_.length : Int) + 1)) ∧
      k1 (decide (v1.Page = (c0_1_.length : Int) + 1))
    else
      k1 false) (fun a1 =>
    if a1 = true then
      ∃ v2 : ApiChange, c0_0_.Changes[0]? = some v2 ∧
      ∃ r1 : List ByteArray, slices_Clone_string_string.w v2.Lines (fun r' => r' = r1) ∧
      ((c0_1_.length + ([r1] : List (List ByteArray)).length) * 24 ≤ 140737488355328) ∧
      (1 ≤ c0_0_.Changes.length) ∧
      Q true (⟨c0_0_.Pages, c0_0_.Changes.drop 1⟩ : ApiPatch) (c0_1_ ++ ([r1] : List (List ByteArray)))
    else
      if (a0_.length : Int) ≤ (c0_1_.length : Int) then
        Q false c0_0_ c0_1_
      else
        ∃ v3 : List ByteArray, a0_[c0_1_.length]? = some v3 ∧
        ∃ r2 : List ByteArray, slices_Clone_string_string.w v3 (fun r' => r' = r2) ∧
        ((c0_1_.length + ([r2] : List (List ByteArray)).length) * 24 ≤ 140737488355328) ∧
        Q true c0_0_ (c0_1_ ++ ([r2] : List (List ByteArray))))
theorem patch_book_page_i0.ok {a0_ : List (List ByteArray)} {c0_0_ : ApiPatch} {c0_1_ : List (List ByteArray)} {Q : Bool → ApiPatch → (List (List ByteArray)) → Prop} (hm : patch_book_page_i0.w a0_ c0_0_ c0_1_ Q) {h0 h : Hp} {b0_ : Nat} {x0_1_ : AV} (H : AM.Own h0 h [⟨x0_1_, false, 1, c0_1_.map (encSl 1 AM.encStr), some (38, 0)⟩, ⟨(.optr b0_ 3 0 0), true, 3, [((ApiPatch.enc c0_0_) ++ [x0_1_])], some (47, 3)⟩]) : ACalls Tryd.prog n_patch_book_page [(.optr b0_ 3 0 0), (.isl 1 (a0_.map (encSl 1 AM.encStr)))] h (fun e h' => ∃ (r : Bool) (c0_0' : ApiPatch) (c0_1' : List (List ByteArray)) (x0_1_' : AV), e = .ret ((fun r => (abool r)) r) ∧ AM.Own h0 h' [⟨x0_1_', false, 1, c0_1'.map (encSl 1 AM.encStr), some (38, 0)⟩, ⟨(.optr b0_ 3 0 0), true, 3, [((ApiPatch.enc c0_0') ++ [x0_1_'])], some (47, 3)⟩] ∧ Q r c0_0' c0_1') := by
  refine enter_patch_book_page ?_
  unfold patch_book_page_i0.w at hm
  have e1 := H.getP 1 rfl
  simp (maxSteps := 4000000) -implicitDefEqProofs (disch := omega) only [push_cast, Nat.reduceAdd, Nat.reduceLeDiff, Nat.reduceMul, Nat.reduceSub, Nat.reduceLT, Nat.reduceEqDiff, Int.reduceAdd, Int.reduceSub, Int.reduceLE, Int.reduceLT, Int.reduceEq, Int.reduceNe, Int.reduceToNat, Int.reduceNeg, reduceIte, reduceCtorEq, ac_patch_book_page, H.lenE 0 rfl tab_22, e1]
  obtain ⟨k1, hm, hk1⟩ := wcut_elim hm
  refine awp_cut (fun s' => ∃ (a1 : Bool) (h1 : Hp), Like s'.tm (((((List.replicate 77 none).set 0 (some (.optr b0_ 3 0 0))).set 1 (some (.isl 1 (a0_.map (encSl 1 AM.encStr))))).set 5 (some (aint (c0_1_.length : Int)))).set 30 (some (abool a1))) ∧ s'.h = h1 ∧ AM.Own h0 h1 [⟨x0_1_, false, 1, c0_1_.map (encSl 1 AM.encStr), some (38, 0)⟩, ⟨(.optr b0_ 3 0 0), true, 3, [((ApiPatch.enc c0_0_) ++ [x0_1_])], some (47, 3)⟩] ∧ k1 a1) ?_ ?_
  · have e1 := H.getP 1 rfl
    simp (maxSteps := 4000000) -implicitDefEqProofs (disch := omega) only [push_cast, Nat.reduceAdd, Nat.reduceLeDiff, Nat.reduceMul, Nat.reduceSub, Nat.reduceLT, Nat.reduceEqDiff, Int.reduceAdd, Int.reduceSub, Int.reduceLE, Int.reduceLT, Int.reduceEq, Int.reduceNe, Int.reduceToNat, Int.reduceNeg, reduceIte, reduceCtorEq, e1]
    rw [gfork_cond]
    refine ⟨fun c1 => ?_, fun c1 => ?_⟩
    · replace hm := ifp hm c1
      obtain ⟨v1, i1, hm⟩ := hm
      obtain ⟨w1, hm⟩ := hm
      have e1 := H.getP 1 rfl
      simp (maxSteps := 4000000) -implicitDefEqProofs (disch := omega) only [push_cast, Nat.reduceAdd, Nat.reduceLeDiff, Nat.reduceMul, Nat.reduceSub, Nat.reduceLT, Nat.reduceEqDiff, Int.reduceAdd, Int.reduceSub, Int.reduceLE, Int.reduceLT, Int.reduceEq, Int.reduceNe, Int.reduceToNat, Int.reduceNeg, reduceIte, reduceCtorEq, eq_true c1, i1, wrap_i64 _ w1, e1]
      replace H := H.perm [0, 1] (by decide)
      exact ⟨decide (v1.Page = (c0_1_.length : Int) + 1), h, by simp [Like, push_cast], rfl, H, hm⟩
    · replace hm := ifn hm c1
      have e1 := H.getP 1 rfl
      simp (maxSteps := 4000000) -implicitDefEqProofs (disch := omega) only [push_cast, Nat.reduceAdd, Nat.reduceLeDiff, Nat.reduceMul, Nat.reduceSub, Nat.reduceLT, Nat.reduceEqDiff, Int.reduceAdd, Int.reduceSub, Int.reduceLE, Int.reduceLT, Int.reduceEq, Int.reduceNe, Int.reduceToNat, Int.reduceNeg, reduceIte, reduceCtorEq, eq_false c1, e1]
      replace H := H.perm [0, 1] (by decide)
      exact ⟨false, h, by simp [Like, push_cast], rfl, H, hm⟩
  · rintro ⟨tm, h1⟩ ⟨a1, _, hL, rfl, H, hm⟩
    dsimp only at hL H
    obtain ⟨D, rfl⟩ := hL.fill 0
    replace hm := hk1 _ hm
    have e1 := H.getP 1 rfl
    simp (maxSteps := 4000000) -implicitDefEqProofs (disch := omega) only [push_cast, Nat.reduceAdd, Nat.reduceLeDiff, Nat.reduceMul, Nat.reduceSub, Nat.reduceLT, Nat.reduceEqDiff, Int.reduceAdd, Int.reduceSub, Int.reduceLE, Int.reduceLT, Int.reduceEq, Int.reduceNe, Int.reduceToNat, Int.reduceNeg, reduceIte, reduceCtorEq, e1]
    rw [fork_bool]
    refine ⟨fun c2 => ?_, fun c2 => ?_⟩
    · replace hm := ifp hm c2
      obtain ⟨v2, i2, hm⟩ := hm
      have e1 := H.getP 1 rfl
      simp (maxSteps := 4000000) -implicitDefEqProofs (disch := omega) only [push_cast, Nat.reduceAdd, Nat.reduceLeDiff, Nat.reduceMul, Nat.reduceSub, Nat.reduceLT, Nat.reduceEqDiff, Int.reduceAdd, Int.reduceSub, Int.reduceLE, Int.reduceLT, Int.reduceEq, Int.reduceNe, Int.reduceToNat, Int.reduceNeg, reduceIte, reduceCtorEq, c2, i2, e1]
      obtain ⟨r1, g1, hm⟩ := hm
      refine pures_of _ (pure_of_back (fun h => slices_Clone_string_string.ok g1 h)) ?_
      have e1 := H.getP 1 rfl
      simp (maxSteps := 4000000) -implicitDefEqProofs (disch := omega) only [push_cast, Nat.reduceAdd, Nat.reduceLeDiff, Nat.reduceMul, Nat.reduceSub, Nat.reduceLT, Nat.reduceEqDiff, Int.reduceAdd, Int.reduceSub, Int.reduceLE, Int.reduceLT, Int.reduceEq, Int.reduceNe, Int.reduceToNat, Int.reduceNeg, reduceIte, reduceCtorEq, c2, i2, e1]
      refine H.newL (E := (encSl 1 AM.encStr)) ([r1] : List (List ByteArray)) rfl rfl (fun b1 h2 H => ?_)
      have e1 := H.getP 1 rfl
      simp (maxSteps := 4000000) -implicitDefEqProofs (disch := omega) only [push_cast, Nat.reduceAdd, Nat.reduceLeDiff, Nat.reduceMul, Nat.reduceSub, Nat.reduceLT, Nat.reduceEqDiff, Int.reduceAdd, Int.reduceSub, Int.reduceLE, Int.reduceLT, Int.reduceEq, Int.reduceNe, Int.reduceToNat, Int.reduceNeg, reduceIte, reduceCtorEq, c2, i2, H.src (e := 38) 2 rfl, e1]
      obtain ⟨w2, hm⟩ := hm
      refine H.appL (E := (encSl 1 AM.encStr)) 0 ([r1] : List (List ByteArray)) rfl rfl rfl (by decide) (by decide) w2 (fun x1 h3 H => ?_)
      have e1 := H.getP 1 rfl
      simp (maxSteps := 4000000) -implicitDefEqProofs (disch := omega) only [push_cast, Nat.reduceAdd, Nat.reduceLeDiff, Nat.reduceMul, Nat.reduceSub, Nat.reduceLT, Nat.reduceEqDiff, Int.reduceAdd, Int.reduceSub, Int.reduceLE, Int.reduceLT, Int.reduceEq, Int.reduceNe, Int.reduceToNat, Int.reduceNeg, reduceIte, reduceCtorEq, c2, i2, e1]
      refine H.stP 1 ((ApiPatch.enc c0_0_) ++ [x1]) rfl (H.ok 0 rfl).1 (H.ok 0 rfl).2 rfl (Nat.le_of_ble_eq_true rfl) rfl (fun h4 H => ?_)
      obtain ⟨w3, hm⟩ := hm
      have e1 := H.getP 1 rfl
      simp (maxSteps := 4000000) -implicitDefEqProofs (disch := omega) only [push_cast, Nat.reduceAdd, Nat.reduceLeDiff, Nat.reduceMul, Nat.reduceSub, Nat.reduceLT, Nat.reduceEqDiff, Int.reduceAdd, Int.reduceSub, Int.reduceLE, Int.reduceLT, Int.reduceEq, Int.reduceNe, Int.reduceToNat, Int.reduceNeg, reduceIte, reduceCtorEq, c2, i2, eq_true w3, e1]
      refine H.stP 1 [(aint c0_0_.Pages), (.isl 2 ((c0_0_.Changes.drop 1).map ApiChange.enc)), x1] rfl rfl rfl rfl (Nat.le_of_ble_eq_true rfl) rfl (fun h5 H => ?_)
      have e1 := H.getP 1 rfl
      simp (maxSteps := 4000000) -implicitDefEqProofs (disch := omega) only [push_cast, Nat.reduceAdd, Nat.reduceLeDiff, Nat.reduceMul, Nat.reduceSub, Nat.reduceLT, Nat.reduceEqDiff, Int.reduceAdd, Int.reduceSub, Int.reduceLE, Int.reduceLT, Int.reduceEq, Int.reduceNe, Int.reduceToNat, Int.reduceNeg, reduceIte, reduceCtorEq, c2, i2, eq_true w3, e1]
      have e1 := H.getP 1 rfl
      replace H := H.perm [0, 1] (by decide)
      exact retQ_o (.inl rfl) (x := (abool true)) rfl (Shift.refl _ _) ⟨true, (⟨c0_0_.Pages, c0_0_.Changes.drop 1⟩ : ApiPatch), c0_1_ ++ ([r1] : List (List ByteArray)), x1, rfl, H, hm⟩
    · replace hm := ifn hm (by rw [c2]; exact Bool.false_ne_true)
      have e1 := H.getP 1 rfl
      simp (maxSteps := 4000000) -implicitDefEqProofs (disch := omega) only [push_cast, Nat.reduceAdd, Nat.reduceLeDiff, Nat.reduceMul, Nat.reduceSub, Nat.reduceLT, Nat.reduceEqDiff, Int.reduceAdd, Int.reduceSub, Int.reduceLE, Int.reduceLT, Int.reduceEq, Int.reduceNe, Int.reduceToNat, Int.reduceNeg, reduceIte, reduceCtorEq, c2, e1]
      rw [fork_cond]
      refine ⟨fun c3 => ?_, fun c3 => ?_⟩
      · replace hm := ifp hm c3
        have e1 := H.getP 1 rfl
        simp (maxSteps := 4000000) -implicitDefEqProofs (disch := omega) only [push_cast, Nat.reduceAdd, Nat.reduceLeDiff, Nat.reduceMul, Nat.reduceSub, Nat.reduceLT, Nat.reduceEqDiff, Int.reduceAdd, Int.reduceSub, Int.reduceLE, Int.reduceLT, Int.reduceEq, Int.reduceNe, Int.reduceToNat, Int.reduceNeg, reduceIte, reduceCtorEq, c2, eq_true c3, e1]
        have e1 := H.getP 1 rfl
        replace H := H.perm [0, 1] (by decide)
        exact retQ_o (.inl rfl) (x := (abool false)) rfl (Shift.refl _ _) ⟨false, c0_0_, c0_1_, x0_1_, rfl, H, hm⟩
      · replace hm := ifn hm c3
        obtain ⟨v3, i3, hm⟩ := hm
        have e1 := H.getP 1 rfl
        simp (maxSteps := 4000000) -implicitDefEqProofs (disch := omega) only [push_cast, Nat.reduceAdd, Nat.reduceLeDiff, Nat.reduceMul, Nat.reduceSub, Nat.reduceLT, Nat.reduceEqDiff, Int.reduceAdd, Int.reduceSub, Int.reduceLE, Int.reduceLT, Int.reduceEq, Int.reduceNe, Int.reduceToNat, Int.reduceNeg, reduceIte, reduceCtorEq, c2, eq_false c3, i3, e1]
        obtain ⟨r2, g2, hm⟩ := hm
        refine pures_of _ (pure_of_back (fun h => slices_Clone_string_string.ok g2 h)) ?_
        have e1 := H.getP 1 rfl
        simp (maxSteps := 4000000) -implicitDefEqProofs (disch := omega) only [push_cast, Nat.reduceAdd, Nat.reduceLeDiff, Nat.reduceMul, Nat.reduceSub, Nat.reduceLT, Nat.reduceEqDiff, Int.reduceAdd, Int.reduceSub, Int.reduceLE, Int.reduceLT, Int.reduceEq, Int.reduceNe, Int.reduceToNat, Int.reduceNeg, reduceIte, reduceCtorEq, c2, eq_false c3, i3, e1]
        refine H.newL (E := (encSl 1 AM.encStr)) ([r2] : List (List ByteArray)) rfl rfl (fun b2 h6 H => ?_)
        have e1 := H.getP 1 rfl
        simp (maxSteps := 4000000) -implicitDefEqProofs (disch := omega) only [push_cast, Nat.reduceAdd, Nat.reduceLeDiff, Nat.reduceMul, Nat.reduceSub, Nat.reduceLT, Nat.reduceEqDiff, Int.reduceAdd, Int.reduceSub, Int.reduceLE, Int.reduceLT, Int.reduceEq, Int.reduceNe, Int.reduceToNat, Int.reduceNeg, reduceIte, reduceCtorEq, c2, eq_false c3, i3, H.src (e := 38) 2 rfl, e1]
        obtain ⟨w4, hm⟩ := hm
        refine H.appL (E := (encSl 1 AM.encStr)) 0 ([r2] : List (List ByteArray)) rfl rfl rfl (by decide) (by decide) w4 (fun x2 h7 H => ?_)
        have e1 := H.getP 1 rfl
        simp (maxSteps := 4000000) -implicitDefEqProofs (disch := omega) only [push_cast, Nat.reduceAdd, Nat.reduceLeDiff, Nat.reduceMul, Nat.reduceSub, Nat.reduceLT, Nat.reduceEqDiff, Int.reduceAdd, Int.reduceSub, Int.reduceLE, Int.reduceLT, Int.reduceEq, Int.reduceNe, Int.reduceToNat, Int.reduceNeg, reduceIte, reduceCtorEq, c2, eq_false c3, i3, e1]
        refine H.stP 1 ((ApiPatch.enc c0_0_) ++ [x2]) rfl (H.ok 0 rfl).1 (H.ok 0 rfl).2 rfl (Nat.le_of_ble_eq_true rfl) rfl (fun h8 H => ?_)
        have e1 := H.getP 1 rfl
        simp (maxSteps := 4000000) -implicitDefEqProofs (disch := omega) only [push_cast, Nat.reduceAdd, Nat.reduceLeDiff, Nat.reduceMul, Nat.reduceSub, Nat.reduceLT, Nat.reduceEqDiff, Int.reduceAdd, Int.reduceSub, Int.reduceLE, Int.reduceLT, Int.reduceEq, Int.reduceNe, Int.reduceToNat, Int.reduceNeg, reduceIte, reduceCtorEq, c2, eq_false c3, i3, e1]
        have e1 := H.getP 1 rfl
        replace H := H.perm [0, 1] (by decide)
        exact retQ_o (.inl rfl) (x := (abool true)) rfl (Shift.refl _ _) ⟨true, c0_0_, c0_1_ ++ ([r2] : List (List ByteArray)), x2, rfl, H, hm⟩
end Go.Proofs.YtlnjajfagildnaaDoor
