/- Functions of the program: code, what is asked for their answers, the walk (printed by pr.py). -/
import Derived.Test.YtnenodamppageaaDat
namespace Go.Proofs.Ytnenodamppageaa
open Go Go.Proofs.Ytnenodamppageaa.AM
set_option maxRecDepth 100000
set_option linter.unusedSimpArgs false
set_option linter.unusedVariables false
set_option maxHeartbeats 4000000
/-! stylus/seek.Words -/
abbrev n_seek_Words : Nat := 8
noncomputable def code_seek_Words : Code := match Try.f8.body with | some c => c | none => .skip
def ann_seek_Words : Nat → Ann
  | _ => {}
noncomputable def ac_seek_Words : AC :=
  (.seq (.reg [⟨some 1, (Op.box 22 (Operand.tmp 0)), none, false⟩, ⟨some 2, (Op.assign (Operand.const Value.nilFunc)), none, false⟩]) (.seq (.reg [⟨some 3, (Op.makeFunc (Fn.func 21) #[] #[(Operand.tmp 1)]), none, false⟩, ⟨some 2, (Op.assign (Operand.tmp 3)), none, false⟩]) .ret))
theorem body_seek_Words : Try.f8.body = some code_seek_Words := by kernel_rfl
theorem slim_seek_Words : slim ann_seek_Words code_seek_Words = some ac_seek_Words := by kernel_rfl
theorem name_seek_Words : (Try.f8.name == "runtime.NumGoroutine") = false := by kernel_rfl
theorem enter_seek_Words {args : List AV} {h : Hp} {Q : AE → Hp → Prop} (H : awp Try.prog tab ac_seek_Words (retQ tab [(ResultVar.tmp 2)] Q) ⟨args ++ List.replicate (4 - args.length) .any, h⟩) : ACalls Try.prog 8 args h Q :=
  acalls_of tab_ok mixed Try.func8 body_seek_Words name_seek_Words slim_seek_Words rfl Try.ntmps8 H
/-- stylus/seek.Words -/
def seek_Words.w (a0_ : List ApiTok) (Q : (List ApiTok) → Prop) : Prop :=
  Q a0_
theorem seek_Words.ok {a0_ : List ApiTok} {Q : (List ApiTok) → Prop} (hm : seek_Words.w a0_ Q) (h0 : Hp) : ACalls Try.prog n_seek_Words [(.isl 3 (a0_.map ApiTok.enc))] h0 (Back h0 (fun r => (.fn (.func 21) [] [(.iptr [(.isl 3 (r.map ApiTok.enc))] 0)])) Q) := by
  refine enter_seek_Words ?_
  unfold seek_Words.w at hm
  have H := AM.Own.nil h0
  simp (maxSteps := 4000000) -implicitDefEqProofs (disch := omega) only [push_cast, Nat.reduceAdd, Nat.reduceLeDiff, Nat.reduceMul, Nat.reduceSub, Nat.reduceLT, Nat.reduceEqDiff, Int.reduceAdd, Int.reduceSub, Int.reduceLE, Int.reduceLT, Int.reduceEq, Int.reduceNe, Int.reduceToNat, Int.reduceNeg, reduceIte, reduceCtorEq, ac_seek_Words]
  refine H.newR [(.isl 3 (a0_.map ApiTok.enc))] rfl (fun b1 h1 H => ?_)
  have e0 := H.getP 0 rfl
  simp (maxSteps := 4000000) -implicitDefEqProofs (disch := omega) only [push_cast, Nat.reduceAdd, Nat.reduceLeDiff, Nat.reduceMul, Nat.reduceSub, Nat.reduceLT, Nat.reduceEqDiff, Int.reduceAdd, Int.reduceSub, Int.reduceLE, Int.reduceLT, Int.reduceEq, Int.reduceNe, Int.reduceToNat, Int.reduceNeg, reduceIte, reduceCtorEq, e0]
  obtain ⟨h2, s1, H⟩ := H.freezeP 0 rfl
  exact retQ_back (.inl rfl) a0_ _ rfl (Shift.fn (Shifts.at s1 [] [])) H.sub hm
/-! stylus/chars.of -/
abbrev n_chars_of : Nat := 46
noncomputable def code_chars_of : Code := match Try.f46.body with | some c => c | none => .skip
def ann_chars_of : Nat → Ann
  | 5 => { pure := [], plan := (.op 0 (.op 1 (.op 2 (.op 3 (.op 4 (.op 5 (.op 6 (.op 7 (.op 8 (.op 9 (.op 10 (.op 11 (.op 12 (.op 13 .done)))))))))))))), ghost := false, post := false }
  | _ => {}
noncomputable def ac_chars_of : AC :=
  (.seq (.reg [⟨some 2, (Op.alloc 60), none, false⟩]) (.seq (.reg [⟨some 3, (Op.alloc 60), none, false⟩]) (.seq (.seq (.reg [⟨some 5, (Op.move (Operand.tmp 0)), none, false⟩, ⟨some 6, (Op.call (Call.mk (Callee.builtin Builtin.len) #[(Operand.tmp 5)] #[9])), none, false⟩, ⟨some 7, (Op.move (Operand.const (Value.int IntKind.i64 0))), none, false⟩]) (.block 0 (.loop (.seq (.reg [⟨some 8, (Op.binOp BinOp.lss 3 (Operand.tmp 7) (Operand.tmp 6) 3), none, false⟩]) (.seq (.cond (Operand.tmp 8) .skip (.exit 0)) (.seq (.block 1 (.seq (.reg [⟨some 9, (Op.move (Operand.tmp 7)), none, false⟩, ⟨some 4, (Op.assign (Operand.tmp 9)), none, false⟩]) (.draw [⟨some 10, (Op.move (Operand.tmp 0)), none, false⟩, ⟨some 11, (Op.move (Operand.tmp 4)), none, false⟩, ⟨some 12, (Op.index 9 (Operand.tmp 10) (Operand.tmp 11)), none, false⟩, ⟨some 13, (Op.binOp BinOp.shr 5 (Operand.tmp 12) (Operand.const (Value.int IntKind.u64 6)) 57), none, false⟩, ⟨some 14, (Op.indexAddr 60 (Operand.tmp 3) (Operand.tmp 13)), none, false⟩, ⟨some 15, (Op.load 58 (Operand.tmp 14)), none, false⟩, ⟨some 16, (Op.move (Operand.tmp 0)), none, false⟩, ⟨some 17, (Op.move (Operand.tmp 4)), none, false⟩, ⟨some 18, (Op.index 9 (Operand.tmp 16) (Operand.tmp 17)), none, false⟩, ⟨some 19, (Op.binOp BinOp.and 5 (Operand.tmp 18) (Operand.const (Value.int IntKind.u8 63)) 5), none, false⟩, ⟨some 20, (Op.binOp BinOp.shl 58 (Operand.const (Value.int IntKind.u64 1)) (Operand.tmp 19) 5), none, false⟩, ⟨some 21, (Op.binOp BinOp.or 58 (Operand.tmp 15) (Operand.tmp 20) 58), none, false⟩, ⟨some 22, (Op.indexAddr 60 (Operand.tmp 3) (Operand.tmp 13)), none, false⟩, ⟨none, (Op.store 58 (Operand.tmp 22) (Operand.tmp 21)), none, false⟩] (.op 0 (.op 1 (.op 2 (.op 3 (.op 4 (.op 5 (.op 6 (.op 7 (.op 8 (.op 9 (.op 10 (.op 11 (.op 12 (.op 13 .done))))))))))))))))) (.reg [⟨some 23, (Op.binOp BinOp.add 3 (Operand.tmp 7) (Operand.const (Value.int IntKind.i64 1)) 3), none, false⟩, ⟨some 7, (Op.move (Operand.tmp 23)), none, false⟩]))))))) (.seq (.reg [⟨some 24, (Op.load 60 (Operand.tmp 3)), none, false⟩, ⟨none, (Op.store 60 (Operand.tmp 2) (Operand.tmp 24)), none, false⟩]) .ret))))
theorem body_chars_of : Try.f46.body = some code_chars_of := by kernel_rfl
theorem slim_chars_of : slim ann_chars_of code_chars_of = some ac_chars_of := by kernel_rfl
theorem name_chars_of : (Try.f46.name == "runtime.NumGoroutine") = false := by kernel_rfl
theorem enter_chars_of {args : List AV} {h : Hp} {Q : AE → Hp → Prop} (H : awp Try.prog tab ac_chars_of (retQ tab [(ResultVar.cell 2 60)] Q) ⟨args ++ List.replicate (25 - args.length) .any, h⟩) : ACalls Try.prog 46 args h Q :=
  acalls_of tab_ok mixed Try.func46 body_chars_of name_chars_of slim_chars_of rfl Try.ntmps46 H
/-- stylus/chars.of -/
def chars_of.w (a0_ : ByteArray) (Q : (List Int) → Prop) : Prop :=
  wloop (σ := (List Int) × Int) (fun ⟨a1, a2⟩ next1 =>
    if a2 < (a0_.size : Int) then
      (0 ≤ a2) ∧
      ∃ v1 : UInt8, a0_[a2.toNat]? = some v1 ∧
      (0 ≤ ishr .u8 (v1.toNat : Int) 6) ∧
      ((ishr .u8 (v1.toNat : Int) 6).toNat < 4) ∧
      ∃ v2 : Int, a1[(ishr .u8 (v1.toNat : Int) 6).toNat]? = some v2 ∧
      (0 ≤ iand .u8 (v1.toNat : Int) 63) ∧
      ((ishr .u8 (v1.toNat : Int) 6).toNat < 4) ∧
      ((ishr .u8 (v1.toNat : Int) 6).toNat < a1.length) ∧
      (I64 (a2 + 1)) ∧
      next1 (a1.set (ishr .u8 (v1.toNat : Int) 6).toNat (ior .u64 v2 (ishl .u64 1 (iand .u8 (v1.toNat : Int) 63))), a2 + 1)
    else
      (a1.length = 4) ∧
      (a1.length = 4) ∧
      (([0, 0, 0, 0] : List Int).length = 4) ∧
      (a1.length = 4) ∧
      Q a1) (([0, 0, 0, 0] : List Int), 0)
theorem chars_of.ok {a0_ : ByteArray} {Q : (List Int) → Prop} (hm : chars_of.w a0_ Q) (h0 : Hp) : ACalls Try.prog n_chars_of [(astr a0_)] h0 (Back h0 (fun r => (.agg (r.map (fun v => (.val (.int .u64 v)))))) Q) := by
  refine enter_chars_of ?_
  unfold chars_of.w at hm
  have H := AM.Own.nil h0
  simp (maxSteps := 4000000) -implicitDefEqProofs (disch := omega) only [push_cast, Nat.reduceAdd, Nat.reduceLeDiff, Nat.reduceMul, Nat.reduceSub, Nat.reduceLT, Nat.reduceEqDiff, Int.reduceAdd, Int.reduceSub, Int.reduceLE, Int.reduceLT, Int.reduceEq, Int.reduceNe, Int.reduceToNat, Int.reduceNeg, reduceIte, reduceCtorEq, ac_chars_of]
  refine H.newR (([0, 0, 0, 0] : List Int).map (fun v => (.val (.int .u64 v)))) rfl (fun b1 h1 H => ?_)
  have e0 := H.getP 0 rfl
  simp (maxSteps := 4000000) -implicitDefEqProofs (disch := omega) only [push_cast, Nat.reduceAdd, Nat.reduceLeDiff, Nat.reduceMul, Nat.reduceSub, Nat.reduceLT, Nat.reduceEqDiff, Int.reduceAdd, Int.reduceSub, Int.reduceLE, Int.reduceLT, Int.reduceEq, Int.reduceNe, Int.reduceToNat, Int.reduceNeg, reduceIte, reduceCtorEq, e0]
  refine H.newR (([0, 0, 0, 0] : List Int).map (fun v => (.val (.int .u64 v)))) rfl (fun b2 h2 H => ?_)
  have e0 := H.getP 0 rfl
  have e1 := H.getP 1 rfl
  simp (maxSteps := 4000000) -implicitDefEqProofs (disch := omega) only [push_cast, Nat.reduceAdd, Nat.reduceLeDiff, Nat.reduceMul, Nat.reduceSub, Nat.reduceLT, Nat.reduceEqDiff, Int.reduceAdd, Int.reduceSub, Int.reduceLE, Int.reduceLT, Int.reduceEq, Int.reduceNe, Int.reduceToNat, Int.reduceNeg, reduceIte, reduceCtorEq, e0, e1]
  obtain ⟨inv1, mu1, hi1, hs1⟩ := hm
  replace H := H.perm [0, 1] (by decide)
  refine awp_loop (σ := ((List Int) × Int) × Hp) (fun ⟨⟨a1, a2⟩, h3⟩ => ⟨(((((List.replicate 25 AV.any).set 0 (astr a0_)).set 2 (.optr b1 4 0 0)).set 3 (.optr b2 4 0 0)).set 6 (aint (a0_.size : Int))).set 7 (aint a2), h3⟩) (fun ⟨⟨a1, a2⟩, h3⟩ => inv1 (a1, a2) ∧ AM.Own h0 h3 [⟨(.optr b1 4 0 0), true, 4, [(([0, 0, 0, 0] : List Int).map (fun v => (.val (.int .u64 v))))], some (60, 4)⟩, ⟨(.optr b2 4 0 0), true, 4, [(a1.map (fun v => (.val (.int .u64 v))))], some (60, 4)⟩]) (fun ⟨⟨a1, a2⟩, h3⟩ => mu1 (a1, a2)) ⟨(([0, 0, 0, 0] : List Int), 0), h2⟩ (Retell.weak (by simp [Weak, push_cast]) (Hp.sub.refl _)) ⟨hi1, H⟩ ?_
  rintro ⟨⟨a1, a2⟩, h3⟩ ⟨hi1, H⟩
  have hm := hs1 _ hi1
  dsimp only at hm H ⊢
  have e0 := H.getP 0 rfl
  have e1 := H.getP 1 rfl
  simp (maxSteps := 4000000) -implicitDefEqProofs (disch := omega) only [push_cast, Nat.reduceAdd, Nat.reduceLeDiff, Nat.reduceMul, Nat.reduceSub, Nat.reduceLT, Nat.reduceEqDiff, Int.reduceAdd, Int.reduceSub, Int.reduceLE, Int.reduceLT, Int.reduceEq, Int.reduceNe, Int.reduceToNat, Int.reduceNeg, reduceIte, reduceCtorEq, e0, e1]
  rw [fork_cond]
  refine ⟨fun c1 => ?_, fun c1 => ?_⟩
  · replace hm := ifp hm c1
    obtain ⟨z1, hm⟩ := hm
    obtain ⟨v1, i1, hm⟩ := hm
    obtain ⟨z2, hm⟩ := hm
    obtain ⟨z3, hm⟩ := hm
    obtain ⟨v2, i2, hm⟩ := hm
    obtain ⟨z4, hm⟩ := hm
    obtain ⟨z5, hm⟩ := hm
    obtain ⟨z6, hm⟩ := hm
    have e0 := H.getP 0 rfl
    have e1 := H.getP 1 rfl
    simp (maxSteps := 4000000) -implicitDefEqProofs (disch := omega) only [push_cast, Nat.reduceAdd, Nat.reduceLeDiff, Nat.reduceMul, Nat.reduceSub, Nat.reduceLT, Nat.reduceEqDiff, Int.reduceAdd, Int.reduceSub, Int.reduceLE, Int.reduceLT, Int.reduceEq, Int.reduceNe, Int.reduceToNat, Int.reduceNeg, reduceIte, reduceCtorEq, eq_true c1, eq_true z1, i1, eq_true z2, eq_true z3, arrAt i2, i2, Option.map_some, eq_true z4, eq_true z5, e0, e1]
    refine H.stP 1 ((a1.set (ishr .u8 (v1.toNat : Int) 6).toNat (ior .u64 v2 (ishl .u64 1 (iand .u8 (v1.toNat : Int) 63)))).map (fun v => (.val (.int .u64 v)))) rfl rfl rfl rfl (by exact arrLen z6) (by exact arrSet (f := (fun v => (.val (.int .u64 v)))) z6) (fun h4 H => ?_)
    obtain ⟨w1, hm⟩ := hm
    have e0 := H.getP 0 rfl
    have e1 := H.getP 1 rfl
    simp (maxSteps := 4000000) -implicitDefEqProofs (disch := omega) only [push_cast, Nat.reduceAdd, Nat.reduceLeDiff, Nat.reduceMul, Nat.reduceSub, Nat.reduceLT, Nat.reduceEqDiff, Int.reduceAdd, Int.reduceSub, Int.reduceLE, Int.reduceLT, Int.reduceEq, Int.reduceNe, Int.reduceToNat, Int.reduceNeg, reduceIte, reduceCtorEq, eq_true c1, eq_true z1, i1, eq_true z2, eq_true z3, arrAt i2, i2, Option.map_some, eq_true z4, eq_true z5, wrap_i64 _ w1, e0, e1]
    replace H := H.perm [0, 1] (by decide)
    exact ⟨⟨(a1.set (ishr .u8 (v1.toNat : Int) 6).toNat (ior .u64 v2 (ishl .u64 1 (iand .u8 (v1.toNat : Int) 63))), a2 + 1), h4⟩, hm.2, ⟨hm.1, H⟩, Retell.weak (by simp [Weak, push_cast]) (Hp.sub.refl _)⟩
  · replace hm := ifn hm c1
    obtain ⟨z7, hm⟩ := hm
    have z8 := (arrEq (f := (fun v => (.val (.int .u64 v)))) z7)
    have e0 := H.getP 0 rfl
    have e1 := H.getP 1 rfl
    simp (maxSteps := 4000000) -implicitDefEqProofs (disch := omega) only [push_cast, Nat.reduceAdd, Nat.reduceLeDiff, Nat.reduceMul, Nat.reduceSub, Nat.reduceLT, Nat.reduceEqDiff, Int.reduceAdd, Int.reduceSub, Int.reduceLE, Int.reduceLT, Int.reduceEq, Int.reduceNe, Int.reduceToNat, Int.reduceNeg, reduceIte, reduceCtorEq, eq_false c1, List.take_of_length_le (Nat.le_of_eq z8), z8, Nat.le_refl, List.drop_zero, List.take_length, e0, e1]
    obtain ⟨z9, z10, hm⟩ := hm
    refine H.stP 0 (a1.map (fun v => (.val (.int .u64 v)))) rfl rfl rfl (by exact (arrEq (f := (fun v => (.val (.int .u64 v)))) z9)) (by rw [(arrEq (f := (fun v => (.val (.int .u64 v)))) z10)]; exact Nat.le_refl _) (by exact arrAll (arrEq (f := (fun v => (.val (.int .u64 v)))) z10)) (fun h5 H => ?_)
    have e0 := H.getP 0 rfl
    have e1 := H.getP 1 rfl
    simp (maxSteps := 4000000) -implicitDefEqProofs (disch := omega) only [push_cast, Nat.reduceAdd, Nat.reduceLeDiff, Nat.reduceMul, Nat.reduceSub, Nat.reduceLT, Nat.reduceEqDiff, Int.reduceAdd, Int.reduceSub, Int.reduceLE, Int.reduceLT, Int.reduceEq, Int.reduceNe, Int.reduceToNat, Int.reduceNeg, reduceIte, reduceCtorEq, eq_false c1, List.take_of_length_le (Nat.le_of_eq z8), z8, Nat.le_refl, List.drop_zero, List.take_length, e0, e1]
    obtain ⟨z11, hm⟩ := hm
    have z12 := (arrEq (f := (fun v => (.val (.int .u64 v)))) z11)
    have e0 := H.getP 0 rfl
    have e1 := H.getP 1 rfl
    exact retQ_back (.inl rfl) a1 (.agg (a1.map (fun v => (.val (.int .u64 v))))) (by simp (maxSteps := 4000000) -implicitDefEqProofs (disch := omega) only [push_cast, Nat.reduceAdd, Nat.reduceLeDiff, Nat.reduceMul, Nat.reduceSub, Nat.reduceLT, Nat.reduceEqDiff, Int.reduceAdd, Int.reduceSub, Int.reduceLE, Int.reduceLT, Int.reduceEq, Int.reduceNe, Int.reduceToNat, Int.reduceNeg, reduceIte, reduceCtorEq, aResults, resAll, resOne, e0, e1, List.take_of_length_le (Nat.le_of_eq z12), z12, Nat.le_refl, List.drop_zero]) (Shift.refl _ _) H.sub hm
/-! stylus/chars.Marks -/
abbrev n_chars_Marks : Nat := 47
noncomputable def code_chars_Marks : Code := match Try.f47.body with | some c => c | none => .skip
def ann_chars_Marks : Nat → Ann
  | _ => {}
noncomputable def ac_chars_Marks : AC :=
  (.seq (.reg [⟨some 0, (Op.assign (Operand.const (Value.string (ByteArray.mk #[])))), none, false⟩]) (.seq (.reg [⟨some 0, (Op.assign (Operand.const (Value.string (ByteArray.mk #[46, 44, 59, 58, 33, 63, 39, 34, 45, 40, 41, 47])))), none, false⟩]) .ret))
theorem body_chars_Marks : Try.f47.body = some code_chars_Marks := by kernel_rfl
theorem slim_chars_Marks : slim ann_chars_Marks code_chars_Marks = some ac_chars_Marks := by kernel_rfl
theorem name_chars_Marks : (Try.f47.name == "runtime.NumGoroutine") = false := by kernel_rfl
theorem enter_chars_Marks {args : List AV} {h : Hp} {Q : AE → Hp → Prop} (H : awp Try.prog tab ac_chars_Marks (retQ tab [(ResultVar.tmp 0)] Q) ⟨args ++ List.replicate (1 - args.length) .any, h⟩) : ACalls Try.prog 47 args h Q :=
  acalls_of tab_ok mixed Try.func47 body_chars_Marks name_chars_Marks slim_chars_Marks rfl Try.ntmps47 H
/-- stylus/chars.Marks -/
def chars_Marks.w (Q : ByteArray → Prop) : Prop :=
  Q (ByteArray.mk #[46, 44, 59, 58, 33, 63, 39, 34, 45, 40, 41, 47])
theorem chars_Marks.ok {Q : ByteArray → Prop} (hm : chars_Marks.w Q) (h0 : Hp) : ACalls Try.prog n_chars_Marks [] h0 (Back h0 (fun r => (astr r)) Q) := by
  refine enter_chars_Marks ?_
  unfold chars_Marks.w at hm
  have H := AM.Own.nil h0
  simp (maxSteps := 4000000) -implicitDefEqProofs (disch := omega) only [push_cast, Nat.reduceAdd, Nat.reduceLeDiff, Nat.reduceMul, Nat.reduceSub, Nat.reduceLT, Nat.reduceEqDiff, Int.reduceAdd, Int.reduceSub, Int.reduceLE, Int.reduceLT, Int.reduceEq, Int.reduceNe, Int.reduceToNat, Int.reduceNeg, reduceIte, reduceCtorEq, ac_chars_Marks]
  exact retQ_back (.inl rfl) (ByteArray.mk #[46, 44, 59, 58, 33, 63, 39, 34, 45, 40, 41, 47]) _ rfl (Shift.refl _ _) H.sub hm
/-! stylus/chars.classes -/
abbrev n_chars_classes : Nat := 32
noncomputable def code_chars_classes : Code := match Try.f32.body with | some c => c | none => .skip
def ann_chars_classes : Nat → Ann
  | _ => {}
noncomputable def ac_chars_classes : AC :=
  (.seq (.reg [⟨some 0, (Op.alloc 61), none, false⟩]) (.seq (.reg [⟨some 1, (Op.call (Call.mk (Callee.value (Operand.func 46)) #[(Operand.const (Value.string (ByteArray.mk #[97, 98, 99, 100, 101, 102, 103, 104, 105, 106, 107, 108, 109, 110, 111, 112, 113, 114, 115, 116, 117, 118, 119, 120, 121, 122])))] #[9])), none, false⟩, ⟨some 2, (Op.call (Call.mk (Callee.value (Operand.func 46)) #[(Operand.const (Value.string (ByteArray.mk #[65, 66, 67, 68, 69, 70, 71, 72, 73, 74, 75, 76, 77, 78, 79, 80, 81, 82, 83, 84, 85, 86, 87, 88, 89, 90])))] #[9])), none, false⟩, ⟨some 3, (Op.call (Call.mk (Callee.value (Operand.func 46)) #[(Operand.const (Value.string (ByteArray.mk #[48, 49, 50, 51, 52, 53, 54, 55, 56, 57])))] #[9])), none, false⟩, ⟨some 4, (Op.call (Call.mk (Callee.value (Operand.func 47)) #[] #[])), none, false⟩, ⟨some 5, (Op.call (Call.mk (Callee.value (Operand.func 46)) #[(Operand.tmp 4)] #[9])), none, false⟩, ⟨some 6, (Op.call (Call.mk (Callee.value (Operand.func 46)) #[(Operand.const (Value.string (ByteArray.mk #[32])))] #[9])), none, false⟩, ⟨some 7, (Op.call (Call.mk (Callee.value (Operand.func 46)) #[(Operand.const (Value.string (ByteArray.mk #[10])))] #[9])), none, false⟩, ⟨some 8, (Op.build 61 #[(1, (Operand.tmp 1)), (2, (Operand.tmp 2)), (3, (Operand.tmp 3)), (4, (Operand.tmp 5)), (5, (Operand.tmp 6)), (6, (Operand.tmp 7))]), none, false⟩, ⟨none, (Op.store 61 (Operand.tmp 0) (Operand.tmp 8)), none, false⟩]) .ret))
theorem body_chars_classes : Try.f32.body = some code_chars_classes := by kernel_rfl
theorem slim_chars_classes : slim ann_chars_classes code_chars_classes = some ac_chars_classes := by kernel_rfl
theorem name_chars_classes : (Try.f32.name == "runtime.NumGoroutine") = false := by kernel_rfl
theorem enter_chars_classes {args : List AV} {h : Hp} {Q : AE → Hp → Prop} (H : awp Try.prog tab ac_chars_classes (retQ tab [(ResultVar.cell 0 61)] Q) ⟨args ++ List.replicate (9 - args.length) .any, h⟩) : ACalls Try.prog 32 args h Q :=
  acalls_of tab_ok mixed Try.func32 body_chars_classes name_chars_classes slim_chars_classes rfl Try.ntmps32 H
/-- stylus/chars.classes -/
def chars_classes.w (Q : (List (List Int)) → Prop) : Prop :=
  chars_of.w (ByteArray.mk #[97, 98, 99, 100, 101, 102, 103, 104, 105, 106, 107, 108, 109, 110, 111, 112, 113, 114, 115, 116, 117, 118, 119, 120, 121, 122]) (fun r1 =>
    chars_of.w (ByteArray.mk #[65, 66, 67, 68, 69, 70, 71, 72, 73, 74, 75, 76, 77, 78, 79, 80, 81, 82, 83, 84, 85, 86, 87, 88, 89, 90]) (fun r2 =>
      chars_of.w (ByteArray.mk #[48, 49, 50, 51, 52, 53, 54, 55, 56, 57]) (fun r3 =>
        chars_Marks.w  (fun r4 =>
          chars_of.w r4 (fun r5 =>
            chars_of.w (ByteArray.mk #[32]) (fun r6 =>
              chars_of.w (ByteArray.mk #[10]) (fun r7 =>
                (r1.length = 4) ∧
                (r2.length = 4) ∧
                (r3.length = 4) ∧
                (r5.length = 4) ∧
                (r6.length = 4) ∧
                (r7.length = 4) ∧
                ((([([0, 0, 0, 0] : List Int), r1, r2, r3, r5, r6, r7] : List (List Int)).length = 7 ∧ ∀ v ∈ ([([0, 0, 0, 0] : List Int), r1, r2, r3, r5, r6, r7] : List (List Int)), v.length = 4)) ∧
                ((([([0, 0, 0, 0] : List Int), ([0, 0, 0, 0] : List Int), ([0, 0, 0, 0] : List Int), ([0, 0, 0, 0] : List Int), ([0, 0, 0, 0] : List Int), ([0, 0, 0, 0] : List Int), ([0, 0, 0, 0] : List Int)] : List (List Int)).length = 7 ∧ ∀ v ∈ ([([0, 0, 0, 0] : List Int), ([0, 0, 0, 0] : List Int), ([0, 0, 0, 0] : List Int), ([0, 0, 0, 0] : List Int), ([0, 0, 0, 0] : List Int), ([0, 0, 0, 0] : List Int), ([0, 0, 0, 0] : List Int)] : List (List Int)), v.length = 4)) ∧
                ((([([0, 0, 0, 0] : List Int), r1, r2, r3, r5, r6, r7] : List (List Int)).length = 7 ∧ ∀ v ∈ ([([0, 0, 0, 0] : List Int), r1, r2, r3, r5, r6, r7] : List (List Int)), v.length = 4)) ∧
                Q ([([0, 0, 0, 0] : List Int), r1, r2, r3, r5, r6, r7] : List (List Int)))))))))
theorem chars_classes.ok {Q : (List (List Int)) → Prop} (hm : chars_classes.w Q) (h0 : Hp) : ACalls Try.prog n_chars_classes [] h0 (Back h0 (fun r => (.agg (flat2 (fun v => (v.map (fun v => (.val (.int .u64 v))))) r))) Q) := by
  refine enter_chars_classes ?_
  unfold chars_classes.w at hm
  have H := AM.Own.nil h0
  simp (maxSteps := 4000000) -implicitDefEqProofs (disch := omega) only [push_cast, Nat.reduceAdd, Nat.reduceLeDiff, Nat.reduceMul, Nat.reduceSub, Nat.reduceLT, Nat.reduceEqDiff, Int.reduceAdd, Int.reduceSub, Int.reduceLE, Int.reduceLT, Int.reduceEq, Int.reduceNe, Int.reduceToNat, Int.reduceNeg, reduceIte, reduceCtorEq, ac_chars_classes]
  refine H.newR (flat2 (fun v => (v.map (fun v => (.val (.int .u64 v))))) ([([0, 0, 0, 0] : List Int), ([0, 0, 0, 0] : List Int), ([0, 0, 0, 0] : List Int), ([0, 0, 0, 0] : List Int), ([0, 0, 0, 0] : List Int), ([0, 0, 0, 0] : List Int), ([0, 0, 0, 0] : List Int)] : List (List Int))) rfl (fun b1 h1 H => ?_)
  have e0 := H.getP 0 rfl
  simp (maxSteps := 4000000) -implicitDefEqProofs (disch := omega) only [push_cast, Nat.reduceAdd, Nat.reduceLeDiff, Nat.reduceMul, Nat.reduceSub, Nat.reduceLT, Nat.reduceEqDiff, Int.reduceAdd, Int.reduceSub, Int.reduceLE, Int.reduceLT, Int.reduceEq, Int.reduceNe, Int.reduceToNat, Int.reduceNeg, reduceIte, reduceCtorEq, e0]
  refine calls_w (fun h => chars_of.ok hm h) (fun r1 hm => ?_)
  have e0 := H.getP 0 rfl
  simp (maxSteps := 4000000) -implicitDefEqProofs (disch := omega) only [push_cast, Nat.reduceAdd, Nat.reduceLeDiff, Nat.reduceMul, Nat.reduceSub, Nat.reduceLT, Nat.reduceEqDiff, Int.reduceAdd, Int.reduceSub, Int.reduceLE, Int.reduceLT, Int.reduceEq, Int.reduceNe, Int.reduceToNat, Int.reduceNeg, reduceIte, reduceCtorEq, e0]
  refine calls_w (fun h => chars_of.ok hm h) (fun r2 hm => ?_)
  have e0 := H.getP 0 rfl
  simp (maxSteps := 4000000) -implicitDefEqProofs (disch := omega) only [push_cast, Nat.reduceAdd, Nat.reduceLeDiff, Nat.reduceMul, Nat.reduceSub, Nat.reduceLT, Nat.reduceEqDiff, Int.reduceAdd, Int.reduceSub, Int.reduceLE, Int.reduceLT, Int.reduceEq, Int.reduceNe, Int.reduceToNat, Int.reduceNeg, reduceIte, reduceCtorEq, e0]
  refine calls_w (fun h => chars_of.ok hm h) (fun r3 hm => ?_)
  have e0 := H.getP 0 rfl
  simp (maxSteps := 4000000) -implicitDefEqProofs (disch := omega) only [push_cast, Nat.reduceAdd, Nat.reduceLeDiff, Nat.reduceMul, Nat.reduceSub, Nat.reduceLT, Nat.reduceEqDiff, Int.reduceAdd, Int.reduceSub, Int.reduceLE, Int.reduceLT, Int.reduceEq, Int.reduceNe, Int.reduceToNat, Int.reduceNeg, reduceIte, reduceCtorEq, e0]
  refine calls_w (fun h => chars_Marks.ok hm h) (fun r4 hm => ?_)
  have e0 := H.getP 0 rfl
  simp (maxSteps := 4000000) -implicitDefEqProofs (disch := omega) only [push_cast, Nat.reduceAdd, Nat.reduceLeDiff, Nat.reduceMul, Nat.reduceSub, Nat.reduceLT, Nat.reduceEqDiff, Int.reduceAdd, Int.reduceSub, Int.reduceLE, Int.reduceLT, Int.reduceEq, Int.reduceNe, Int.reduceToNat, Int.reduceNeg, reduceIte, reduceCtorEq, e0]
  refine calls_w (fun h => chars_of.ok hm h) (fun r5 hm => ?_)
  have e0 := H.getP 0 rfl
  simp (maxSteps := 4000000) -implicitDefEqProofs (disch := omega) only [push_cast, Nat.reduceAdd, Nat.reduceLeDiff, Nat.reduceMul, Nat.reduceSub, Nat.reduceLT, Nat.reduceEqDiff, Int.reduceAdd, Int.reduceSub, Int.reduceLE, Int.reduceLT, Int.reduceEq, Int.reduceNe, Int.reduceToNat, Int.reduceNeg, reduceIte, reduceCtorEq, e0]
  refine calls_w (fun h => chars_of.ok hm h) (fun r6 hm => ?_)
  have e0 := H.getP 0 rfl
  simp (maxSteps := 4000000) -implicitDefEqProofs (disch := omega) only [push_cast, Nat.reduceAdd, Nat.reduceLeDiff, Nat.reduceMul, Nat.reduceSub, Nat.reduceLT, Nat.reduceEqDiff, Int.reduceAdd, Int.reduceSub, Int.reduceLE, Int.reduceLT, Int.reduceEq, Int.reduceNe, Int.reduceToNat, Int.reduceNeg, reduceIte, reduceCtorEq, e0]
  refine calls_w (fun h => chars_of.ok hm h) (fun r7 hm => ?_)
  obtain ⟨z1, z2, z3, z4, z5, z6, hm⟩ := hm
  have w1 := build2 (g := (fun v => (v.map (fun v => (.val (.int .u64 v)))))) (parts := [(1, (.agg (r1.map (fun v => (.val (.int .u64 v)))))), (2, (.agg (r2.map (fun v => (.val (.int .u64 v)))))), (3, (.agg (r3.map (fun v => (.val (.int .u64 v)))))), (4, (.agg (r5.map (fun v => (.val (.int .u64 v)))))), (5, (.agg (r6.map (fun v => (.val (.int .u64 v)))))), (6, (.agg (r7.map (fun v => (.val (.int .u64 v))))))]) ([([0, 0, 0, 0] : List Int), r1, r2, r3, r5, r6, r7] : List (List Int)) [(([0, 0, 0, 0] : List Int).map (fun v => (.val (.int .u64 v)))), (([0, 0, 0, 0] : List Int).map (fun v => (.val (.int .u64 v)))), (([0, 0, 0, 0] : List Int).map (fun v => (.val (.int .u64 v)))), (([0, 0, 0, 0] : List Int).map (fun v => (.val (.int .u64 v)))), (([0, 0, 0, 0] : List Int).map (fun v => (.val (.int .u64 v)))), (([0, 0, 0, 0] : List Int).map (fun v => (.val (.int .u64 v)))), (([0, 0, 0, 0] : List Int).map (fun v => (.val (.int .u64 v))))] tab_61 tab_60 rfl (by simp) (by simp [push_cast, z1, z2, z3, z4, z5, z6]) rfl
  have e0 := H.getP 0 rfl
  simp (maxSteps := 4000000) -implicitDefEqProofs (disch := omega) only [push_cast, Nat.reduceAdd, Nat.reduceLeDiff, Nat.reduceMul, Nat.reduceSub, Nat.reduceLT, Nat.reduceEqDiff, Int.reduceAdd, Int.reduceSub, Int.reduceLE, Int.reduceLT, Int.reduceEq, Int.reduceNe, Int.reduceToNat, Int.reduceNeg, reduceIte, reduceCtorEq, w1, e0]
  obtain ⟨z7, z8, hm⟩ := hm
  refine H.stP 0 (flat2 (fun v => (v.map (fun v => (.val (.int .u64 v))))) ([([0, 0, 0, 0] : List Int), r1, r2, r3, r5, r6, r7] : List (List Int))) rfl rfl rfl (by exact (flat2_all (g := (fun v => (v.map (fun v => (.val (.int .u64 v)))))) (m := 28) z7.1 (fun v hv => by simpa using (z7.2 v hv)) rfl)) (by rw [(flat2_all (g := (fun v => (v.map (fun v => (.val (.int .u64 v)))))) (m := 28) z8.1 (fun v hv => by simpa using (z8.2 v hv)) rfl)]; exact Nat.le_refl _) (by exact arrAll (flat2_all (g := (fun v => (v.map (fun v => (.val (.int .u64 v)))))) (m := 28) z8.1 (fun v hv => by simpa using (z8.2 v hv)) rfl)) (fun h2 H => ?_)
  have e0 := H.getP 0 rfl
  simp (maxSteps := 4000000) -implicitDefEqProofs (disch := omega) only [push_cast, Nat.reduceAdd, Nat.reduceLeDiff, Nat.reduceMul, Nat.reduceSub, Nat.reduceLT, Nat.reduceEqDiff, Int.reduceAdd, Int.reduceSub, Int.reduceLE, Int.reduceLT, Int.reduceEq, Int.reduceNe, Int.reduceToNat, Int.reduceNeg, reduceIte, reduceCtorEq, w1, e0]
  obtain ⟨z9, hm⟩ := hm
  have z10 := (flat2_all (g := (fun v => (v.map (fun v => (.val (.int .u64 v)))))) (m := 28) z9.1 (fun v hv => by simpa using (z9.2 v hv)) rfl)
  have e0 := H.getP 0 rfl
  exact retQ_back (.inl rfl) ([([0, 0, 0, 0] : List Int), r1, r2, r3, r5, r6, r7] : List (List Int)) (.agg (flat2 (fun v => (v.map (fun v => (.val (.int .u64 v))))) ([([0, 0, 0, 0] : List Int), r1, r2, r3, r5, r6, r7] : List (List Int)))) (by simp (maxSteps := 4000000) -implicitDefEqProofs (disch := omega) only [push_cast, Nat.reduceAdd, Nat.reduceLeDiff, Nat.reduceMul, Nat.reduceSub, Nat.reduceLT, Nat.reduceEqDiff, Int.reduceAdd, Int.reduceSub, Int.reduceLE, Int.reduceLT, Int.reduceEq, Int.reduceNe, Int.reduceToNat, Int.reduceNeg, reduceIte, reduceCtorEq, aResults, resAll, resOne, e0, List.take_of_length_le (Nat.le_of_eq z10), z10, Nat.le_refl, List.drop_zero]) (Shift.refl _ _) H.sub hm
/-! (stylus/chars.bits).has -/
abbrev n_chars_bits_has : Nat := 33
noncomputable def code_chars_bits_has : Code := match Try.f33.body with | some c => c | none => .skip
def ann_chars_bits_has : Nat → Ann
  | _ => {}
noncomputable def ac_chars_bits_has : AC :=
  (.seq (.reg [⟨some 2, (Op.box 60 (Operand.tmp 0)), none, false⟩, ⟨some 4, (Op.assign (Operand.const (Value.bool false))), none, false⟩]) (.seq (.reg [⟨some 5, (Op.move (Operand.tmp 1)), none, false⟩, ⟨some 6, (Op.binOp BinOp.shr 5 (Operand.tmp 5) (Operand.const (Value.int IntKind.u64 6)) 57), none, false⟩, ⟨some 7, (Op.indexAddr 60 (Operand.tmp 2) (Operand.tmp 6)), none, false⟩, ⟨some 8, (Op.load 58 (Operand.tmp 7)), none, false⟩, ⟨some 9, (Op.move (Operand.tmp 1)), none, false⟩, ⟨some 10, (Op.binOp BinOp.and 5 (Operand.tmp 9) (Operand.const (Value.int IntKind.u8 63)) 5), none, false⟩, ⟨some 11, (Op.binOp BinOp.shr 58 (Operand.tmp 8) (Operand.tmp 10) 5), none, false⟩, ⟨some 12, (Op.binOp BinOp.and 58 (Operand.tmp 11) (Operand.const (Value.int IntKind.u64 1)) 58), none, false⟩, ⟨some 13, (Op.binOp BinOp.eql 58 (Operand.tmp 12) (Operand.const (Value.int IntKind.u64 1)) 58), none, false⟩, ⟨some 4, (Op.assign (Operand.tmp 13)), none, false⟩]) .ret))
theorem body_chars_bits_has : Try.f33.body = some code_chars_bits_has := by kernel_rfl
theorem slim_chars_bits_has : slim ann_chars_bits_has code_chars_bits_has = some ac_chars_bits_has := by kernel_rfl
theorem name_chars_bits_has : (Try.f33.name == "runtime.NumGoroutine") = false := by kernel_rfl
theorem enter_chars_bits_has {args : List AV} {h : Hp} {Q : AE → Hp → Prop} (H : awp Try.prog tab ac_chars_bits_has (retQ tab [(ResultVar.tmp 4)] Q) ⟨args ++ List.replicate (14 - args.length) .any, h⟩) : ACalls Try.prog 33 args h Q :=
  acalls_of tab_ok mixed Try.func33 body_chars_bits_has name_chars_bits_has slim_chars_bits_has rfl Try.ntmps33 H
/-- (stylus/chars.bits).has -/
def chars_bits_has.w (a0_ : List Int) (a1_ : Int) (Q : Bool → Prop) : Prop :=
  (a0_.length = 4) ∧
  (0 ≤ ishr .u8 a1_ 6) ∧
  ((ishr .u8 a1_ 6).toNat < 4) ∧
  ∃ v1 : Int, a0_[(ishr .u8 a1_ 6).toNat]? = some v1 ∧
  (0 ≤ iand .u8 a1_ 63) ∧
  Q (decide (iand .u64 (ishr .u64 v1 (iand .u8 a1_ 63)) 1 = 1))
theorem chars_bits_has.ok {a0_ : List Int} {a1_ : Int} {Q : Bool → Prop} (hm : chars_bits_has.w a0_ a1_ Q) (h0 : Hp) : ACalls Try.prog n_chars_bits_has [(.agg (a0_.map (fun v => (.val (.int .u64 v))))), (.val (.int .u8 a1_))] h0 (Back h0 (fun r => (abool r)) Q) := by
  refine enter_chars_bits_has ?_
  unfold chars_bits_has.w at hm
  have H := AM.Own.nil h0
  simp (maxSteps := 4000000) -implicitDefEqProofs (disch := omega) only [push_cast, Nat.reduceAdd, Nat.reduceLeDiff, Nat.reduceMul, Nat.reduceSub, Nat.reduceLT, Nat.reduceEqDiff, Int.reduceAdd, Int.reduceSub, Int.reduceLE, Int.reduceLT, Int.reduceEq, Int.reduceNe, Int.reduceToNat, Int.reduceNeg, reduceIte, reduceCtorEq, ac_chars_bits_has]
  obtain ⟨z1, hm⟩ := hm
  refine ⟨z1, ?_⟩
  refine H.newR (a0_.map (fun v => (.val (.int .u64 v)))) rfl (fun b1 h1 H => ?_)
  obtain ⟨z2, hm⟩ := hm
  obtain ⟨z3, hm⟩ := hm
  obtain ⟨v1, i1, hm⟩ := hm
  obtain ⟨z4, hm⟩ := hm
  have e0 := H.getP 0 rfl
  simp (maxSteps := 4000000) -implicitDefEqProofs (disch := omega) only [push_cast, Nat.reduceAdd, Nat.reduceLeDiff, Nat.reduceMul, Nat.reduceSub, Nat.reduceLT, Nat.reduceEqDiff, Int.reduceAdd, Int.reduceSub, Int.reduceLE, Int.reduceLT, Int.reduceEq, Int.reduceNe, Int.reduceToNat, Int.reduceNeg, reduceIte, reduceCtorEq, eq_true z2, eq_true z3, arrAt i1, i1, Option.map_some, eq_true z4, e0]
  exact retQ_back (.inl rfl) (decide (iand .u64 (ishr .u64 v1 (iand .u8 a1_ 63)) 1 = 1)) _ rfl (Shift.refl _ _) H.sub hm
/-! stylus/chars.Class -/
abbrev n_chars_Class : Nat := 26
noncomputable def code_chars_Class : Code := match Try.f26.body with | some c => c | none => .skip
def ann_chars_Class : Nat → Ann
  | _ => {}
noncomputable def ac_chars_Class : AC :=
  (.seq (.reg [⟨some 2, (Op.assign (Operand.const (Value.int IntKind.i64 0))), none, false⟩]) (.seq (.seq (.reg [⟨some 5, (Op.call (Call.mk (Callee.value (Operand.func 32)) #[] #[])), none, false⟩, ⟨some 6, (Op.move (Operand.const (Value.int IntKind.i64 0))), none, false⟩]) (.block 0 (.loop (.seq (.reg [⟨some 7, (Op.binOp BinOp.lss 3 (Operand.tmp 6) (Operand.const (Value.int IntKind.i64 7)) 3), none, false⟩]) (.seq (.cond (Operand.tmp 7) .skip (.exit 0)) (.seq (.block 1 (.seq (.reg [⟨some 8, (Op.move (Operand.tmp 6)), none, false⟩, ⟨some 9, (Op.index 61 (Operand.tmp 5) (Operand.tmp 6)), none, false⟩, ⟨some 4, (Op.alloc 60), none, false⟩, ⟨some 3, (Op.assign (Operand.tmp 8)), none, false⟩, ⟨none, (Op.store 60 (Operand.tmp 4) (Operand.tmp 9)), none, false⟩]) (.seq (.reg [⟨some 10, (Op.load 60 (Operand.tmp 4)), none, false⟩, ⟨some 11, (Op.move (Operand.tmp 0)), none, false⟩, ⟨some 12, (Op.call (Call.mk (Callee.value (Operand.func 33)) #[(Operand.tmp 10), (Operand.tmp 11)] #[60, 5])), none, false⟩]) (.cond (Operand.tmp 12) (.seq (.reg [⟨some 13, (Op.move (Operand.tmp 3)), none, false⟩, ⟨some 2, (Op.assign (Operand.tmp 13)), none, false⟩]) .ret) .skip)))) (.reg [⟨some 14, (Op.binOp BinOp.add 3 (Operand.tmp 6) (Operand.const (Value.int IntKind.i64 1)) 3), none, false⟩, ⟨some 6, (Op.move (Operand.tmp 14)), none, false⟩]))))))) (.seq (.reg [⟨some 2, (Op.assign (Operand.const (Value.int IntKind.i64 0))), none, false⟩]) .ret)))
theorem body_chars_Class : Try.f26.body = some code_chars_Class := by kernel_rfl
theorem slim_chars_Class : slim ann_chars_Class code_chars_Class = some ac_chars_Class := by kernel_rfl
theorem name_chars_Class : (Try.f26.name == "runtime.NumGoroutine") = false := by kernel_rfl
theorem enter_chars_Class {args : List AV} {h : Hp} {Q : AE → Hp → Prop} (H : awp Try.prog tab ac_chars_Class (retQ tab [(ResultVar.tmp 2)] Q) ⟨args ++ List.replicate (15 - args.length) .any, h⟩) : ACalls Try.prog 26 args h Q :=
  acalls_of tab_ok mixed Try.func26 body_chars_Class name_chars_Class slim_chars_Class rfl Try.ntmps26 H
/-- stylus/chars.Class -/
def chars_Class.w (a0_ : Int) (Q : Int → Prop) : Prop :=
  chars_classes.w  (fun r1 =>
    wloop (σ := Int) (fun a1 next1 =>
      if a1 < 7 then
        (0 ≤ a1) ∧
        (a1.toNat < 7) ∧
        ((r1.length = 7 ∧ ∀ v ∈ r1, v.length = 4)) ∧
        ∃ v1 : List Int, r1[a1.toNat]? = some v1 ∧
        (v1.length = 4) ∧
        (([0, 0, 0, 0] : List Int).length = 4) ∧
        (v1.length = 4) ∧
        chars_bits_has.w v1 a0_ (fun r2 =>
          if r2 = true then
            Q a1
          else
            (I64 (a1 + 1)) ∧
            next1 (a1 + 1))
      else
        Q 0) 0)
theorem chars_Class.ok {a0_ : Int} {Q : Int → Prop} (hm : chars_Class.w a0_ Q) (h0 : Hp) : ACalls Try.prog n_chars_Class [(.val (.int .u8 a0_))] h0 (Back h0 (fun r => (aint r)) Q) := by
  refine enter_chars_Class ?_
  unfold chars_Class.w at hm
  have H := AM.Own.nil h0
  simp (maxSteps := 4000000) -implicitDefEqProofs (disch := omega) only [push_cast, Nat.reduceAdd, Nat.reduceLeDiff, Nat.reduceMul, Nat.reduceSub, Nat.reduceLT, Nat.reduceEqDiff, Int.reduceAdd, Int.reduceSub, Int.reduceLE, Int.reduceLT, Int.reduceEq, Int.reduceNe, Int.reduceToNat, Int.reduceNeg, reduceIte, reduceCtorEq, ac_chars_Class]
  refine calls_w (fun h => chars_classes.ok hm h) (fun r1 hm => ?_)
  simp (maxSteps := 4000000) -implicitDefEqProofs (disch := omega) only [push_cast, Nat.reduceAdd, Nat.reduceLeDiff, Nat.reduceMul, Nat.reduceSub, Nat.reduceLT, Nat.reduceEqDiff, Int.reduceAdd, Int.reduceSub, Int.reduceLE, Int.reduceLT, Int.reduceEq, Int.reduceNe, Int.reduceToNat, Int.reduceNeg, reduceIte, reduceCtorEq]
  obtain ⟨inv1, mu1, hi1, hs1⟩ := hm
  replace H := H.perm [] (by decide)
  refine awp_loop (σ := Int × Hp) (fun ⟨a1, h1⟩ => ⟨(((List.replicate 15 AV.any).set 0 (.val (.int .u8 a0_))).set 5 (.agg (flat2 (fun v => (v.map (fun v => (.val (.int .u64 v))))) r1))).set 6 (aint a1), h1⟩) (fun ⟨a1, h1⟩ => inv1 a1 ∧ AM.Own h0 h1 []) (fun ⟨a1, h1⟩ => mu1 a1) ⟨0, h0⟩ (Retell.weak (by simp [Weak, push_cast]) (Hp.sub.refl _)) ⟨hi1, H⟩ ?_
  rintro ⟨a1, h1⟩ ⟨hi1, H⟩
  have hm := hs1 _ hi1
  dsimp only at hm H ⊢
  simp (maxSteps := 4000000) -implicitDefEqProofs (disch := omega) only [push_cast, Nat.reduceAdd, Nat.reduceLeDiff, Nat.reduceMul, Nat.reduceSub, Nat.reduceLT, Nat.reduceEqDiff, Int.reduceAdd, Int.reduceSub, Int.reduceLE, Int.reduceLT, Int.reduceEq, Int.reduceNe, Int.reduceToNat, Int.reduceNeg, reduceIte, reduceCtorEq]
  rw [fork_cond]
  refine ⟨fun c1 => ?_, fun c1 => ?_⟩
  · replace hm := ifp hm c1
    obtain ⟨z1, hm⟩ := hm
    obtain ⟨z2, z3, hm⟩ := hm
    obtain ⟨v1, i1, hm⟩ := hm
    have w1 := idx2 (g := (fun v => (v.map (fun v => (.val (.int .u64 v)))))) (ik := .i64) tab_61 tab_60 rfl z1 z2 z3.1 (fun v hv => by simpa using (z3.2 v hv)) i1
    simp (maxSteps := 4000000) -implicitDefEqProofs (disch := omega) only [push_cast, Nat.reduceAdd, Nat.reduceLeDiff, Nat.reduceMul, Nat.reduceSub, Nat.reduceLT, Nat.reduceEqDiff, Int.reduceAdd, Int.reduceSub, Int.reduceLE, Int.reduceLT, Int.reduceEq, Int.reduceNe, Int.reduceToNat, Int.reduceNeg, reduceIte, reduceCtorEq, eq_true c1, eq_true z1, w1]
    refine H.newR (([0, 0, 0, 0] : List Int).map (fun v => (.val (.int .u64 v)))) rfl (fun b1 h2 H => ?_)
    have e0 := H.getP 0 rfl
    simp (maxSteps := 4000000) -implicitDefEqProofs (disch := omega) only [push_cast, Nat.reduceAdd, Nat.reduceLeDiff, Nat.reduceMul, Nat.reduceSub, Nat.reduceLT, Nat.reduceEqDiff, Int.reduceAdd, Int.reduceSub, Int.reduceLE, Int.reduceLT, Int.reduceEq, Int.reduceNe, Int.reduceToNat, Int.reduceNeg, reduceIte, reduceCtorEq, eq_true c1, eq_true z1, w1, e0]
    obtain ⟨z4, z5, hm⟩ := hm
    refine H.stP 0 (v1.map (fun v => (.val (.int .u64 v)))) rfl rfl rfl (by exact (arrEq (f := (fun v => (.val (.int .u64 v)))) z4)) (by rw [(arrEq (f := (fun v => (.val (.int .u64 v)))) z5)]; exact Nat.le_refl _) (by exact arrAll (arrEq (f := (fun v => (.val (.int .u64 v)))) z5)) (fun h3 H => ?_)
    obtain ⟨z6, hm⟩ := hm
    have z7 := (arrEq (f := (fun v => (.val (.int .u64 v)))) z6)
    have e0 := H.getP 0 rfl
    simp (maxSteps := 4000000) -implicitDefEqProofs (disch := omega) only [push_cast, Nat.reduceAdd, Nat.reduceLeDiff, Nat.reduceMul, Nat.reduceSub, Nat.reduceLT, Nat.reduceEqDiff, Int.reduceAdd, Int.reduceSub, Int.reduceLE, Int.reduceLT, Int.reduceEq, Int.reduceNe, Int.reduceToNat, Int.reduceNeg, reduceIte, reduceCtorEq, eq_true c1, eq_true z1, w1, List.take_of_length_le (Nat.le_of_eq z7), z7, Nat.le_refl, List.drop_zero, List.take_length, e0]
    refine calls_w (fun h => chars_bits_has.ok hm h) (fun r2 hm => ?_)
    have e0 := H.getP 0 rfl
    simp (maxSteps := 4000000) -implicitDefEqProofs (disch := omega) only [push_cast, Nat.reduceAdd, Nat.reduceLeDiff, Nat.reduceMul, Nat.reduceSub, Nat.reduceLT, Nat.reduceEqDiff, Int.reduceAdd, Int.reduceSub, Int.reduceLE, Int.reduceLT, Int.reduceEq, Int.reduceNe, Int.reduceToNat, Int.reduceNeg, reduceIte, reduceCtorEq, eq_true c1, eq_true z1, w1, List.take_of_length_le (Nat.le_of_eq z7), z7, Nat.le_refl, List.drop_zero, List.take_length, e0]
    rw [fork_bool]
    refine ⟨fun c2 => ?_, fun c2 => ?_⟩
    · replace hm := ifp hm c2
      have e0 := H.getP 0 rfl
      simp (maxSteps := 4000000) -implicitDefEqProofs (disch := omega) only [push_cast, Nat.reduceAdd, Nat.reduceLeDiff, Nat.reduceMul, Nat.reduceSub, Nat.reduceLT, Nat.reduceEqDiff, Int.reduceAdd, Int.reduceSub, Int.reduceLE, Int.reduceLT, Int.reduceEq, Int.reduceNe, Int.reduceToNat, Int.reduceNeg, reduceIte, reduceCtorEq, eq_true c1, eq_true z1, w1, List.take_of_length_le (Nat.le_of_eq z7), z7, Nat.le_refl, List.drop_zero, List.take_length, c2, e0]
      exact retQ_back (.inl rfl) a1 _ rfl (Shift.refl _ _) H.sub hm
    · replace hm := ifn hm (by rw [c2]; exact Bool.false_ne_true)
      obtain ⟨w2, hm⟩ := hm
      have e0 := H.getP 0 rfl
      simp (maxSteps := 4000000) -implicitDefEqProofs (disch := omega) only [push_cast, Nat.reduceAdd, Nat.reduceLeDiff, Nat.reduceMul, Nat.reduceSub, Nat.reduceLT, Nat.reduceEqDiff, Int.reduceAdd, Int.reduceSub, Int.reduceLE, Int.reduceLT, Int.reduceEq, Int.reduceNe, Int.reduceToNat, Int.reduceNeg, reduceIte, reduceCtorEq, eq_true c1, eq_true z1, w1, List.take_of_length_le (Nat.le_of_eq z7), z7, Nat.le_refl, List.drop_zero, List.take_length, c2, wrap_i64 _ w2, e0]
      replace H := H.perm [] (by decide)
      exact ⟨⟨a1 + 1, h3⟩, hm.2, ⟨hm.1, H⟩, Retell.weak (by simp [Weak, push_cast]) (Hp.sub.refl _)⟩
  · replace hm := ifn hm c1
    simp (maxSteps := 4000000) -implicitDefEqProofs (disch := omega) only [push_cast, Nat.reduceAdd, Nat.reduceLeDiff, Nat.reduceMul, Nat.reduceSub, Nat.reduceLT, Nat.reduceEqDiff, Int.reduceAdd, Int.reduceSub, Int.reduceLE, Int.reduceLT, Int.reduceEq, Int.reduceNe, Int.reduceToNat, Int.reduceNeg, reduceIte, reduceCtorEq, eq_false c1]
    exact retQ_back (.inl rfl) 0 _ rfl (Shift.refl _ _) H.sub hm
/-! stylus/chars.Letter -/
abbrev n_chars_Letter : Nat := 15
noncomputable def code_chars_Letter : Code := match Try.f15.body with | some c => c | none => .skip
def ann_chars_Letter : Nat → Ann
  | _ => {}
noncomputable def ac_chars_Letter : AC :=
  (.seq (.reg [⟨some 2, (Op.assign (Operand.const (Value.bool false))), none, false⟩]) (.seq (.reg [⟨some 4, (Op.move (Operand.tmp 0)), none, false⟩, ⟨some 5, (Op.call (Call.mk (Callee.value (Operand.func 26)) #[(Operand.tmp 4)] #[5])), none, false⟩, ⟨some 3, (Op.assign (Operand.tmp 5)), none, false⟩]) (.seq (.reg [⟨some 6, (Op.move (Operand.tmp 3)), none, false⟩, ⟨some 7, (Op.binOp BinOp.eql 3 (Operand.tmp 6) (Operand.const (Value.int IntKind.i64 1)) 3), none, false⟩, ⟨some 8, (Op.move (Operand.tmp 7)), none, false⟩, ⟨some 9, (Op.move (Operand.tmp 3)), (some (some 8, false)), false⟩, ⟨some 10, (Op.binOp BinOp.eql 3 (Operand.tmp 9) (Operand.const (Value.int IntKind.i64 2)) 3), (some (some 8, false)), false⟩, ⟨some 11, (Op.pick (Operand.tmp 8) (Operand.const (Value.bool true)) (Operand.tmp 10)), none, false⟩, ⟨some 2, (Op.assign (Operand.tmp 11)), none, false⟩]) .ret)))
theorem body_chars_Letter : Try.f15.body = some code_chars_Letter := by kernel_rfl
theorem slim_chars_Letter : slim ann_chars_Letter code_chars_Letter = some ac_chars_Letter := by kernel_rfl
theorem name_chars_Letter : (Try.f15.name == "runtime.NumGoroutine") = false := by kernel_rfl
theorem enter_chars_Letter {args : List AV} {h : Hp} {Q : AE → Hp → Prop} (H : awp Try.prog tab ac_chars_Letter (retQ tab [(ResultVar.tmp 2)] Q) ⟨args ++ List.replicate (12 - args.length) .any, h⟩) : ACalls Try.prog 15 args h Q :=
  acalls_of tab_ok mixed Try.func15 body_chars_Letter name_chars_Letter slim_chars_Letter rfl Try.ntmps15 H
/-- stylus/chars.Letter -/
def chars_Letter.w (a0_ : Int) (Q : Bool → Prop) : Prop :=
  chars_Class.w a0_ (fun r1 =>
    if r1 = 1 then
      Q true
    else
      Q (decide (r1 = 2)))
theorem chars_Letter.ok {a0_ : Int} {Q : Bool → Prop} (hm : chars_Letter.w a0_ Q) (h0 : Hp) : ACalls Try.prog n_chars_Letter [(.val (.int .u8 a0_))] h0 (Back h0 (fun r => (abool r)) Q) := by
  refine enter_chars_Letter ?_
  unfold chars_Letter.w at hm
  have H := AM.Own.nil h0
  simp (maxSteps := 4000000) -implicitDefEqProofs (disch := omega) only [push_cast, Nat.reduceAdd, Nat.reduceLeDiff, Nat.reduceMul, Nat.reduceSub, Nat.reduceLT, Nat.reduceEqDiff, Int.reduceAdd, Int.reduceSub, Int.reduceLE, Int.reduceLT, Int.reduceEq, Int.reduceNe, Int.reduceToNat, Int.reduceNeg, reduceIte, reduceCtorEq, ac_chars_Letter]
  refine calls_w (fun h => chars_Class.ok hm h) (fun r1 hm => ?_)
  simp (maxSteps := 4000000) -implicitDefEqProofs (disch := omega) only [push_cast, Nat.reduceAdd, Nat.reduceLeDiff, Nat.reduceMul, Nat.reduceSub, Nat.reduceLT, Nat.reduceEqDiff, Int.reduceAdd, Int.reduceSub, Int.reduceLE, Int.reduceLT, Int.reduceEq, Int.reduceNe, Int.reduceToNat, Int.reduceNeg, reduceIte, reduceCtorEq]
  rw [gfork_cond']
  refine ⟨fun c1 => ?_, fun c1 => ?_⟩
  · replace hm := ifp hm c1
    simp (maxSteps := 4000000) -implicitDefEqProofs (disch := omega) only [push_cast, Nat.reduceAdd, Nat.reduceLeDiff, Nat.reduceMul, Nat.reduceSub, Nat.reduceLT, Nat.reduceEqDiff, Int.reduceAdd, Int.reduceSub, Int.reduceLE, Int.reduceLT, Int.reduceEq, Int.reduceNe, Int.reduceToNat, Int.reduceNeg, reduceIte, reduceCtorEq, eq_true c1]
    exact retQ_back (.inl rfl) true _ rfl (Shift.refl _ _) H.sub hm
  · replace hm := ifn hm c1
    simp (maxSteps := 4000000) -implicitDefEqProofs (disch := omega) only [push_cast, Nat.reduceAdd, Nat.reduceLeDiff, Nat.reduceMul, Nat.reduceSub, Nat.reduceLT, Nat.reduceEqDiff, Int.reduceAdd, Int.reduceSub, Int.reduceLE, Int.reduceLT, Int.reduceEq, Int.reduceNe, Int.reduceToNat, Int.reduceNeg, reduceIte, reduceCtorEq, eq_false c1]
    exact retQ_back (.inl rfl) (decide (r1 = 2)) _ rfl (Shift.refl _ _) H.sub hm
/-! stylus/seek.letter -/
abbrev n_seek_letter : Nat := 22
noncomputable def code_seek_letter : Code := match Try.f22.body with | some c => c | none => .skip
def ann_seek_letter : Nat → Ann
  | _ => {}
noncomputable def ac_seek_letter : AC :=
  (.seq (.reg [⟨some 1, (Op.box 38 (Operand.tmp 0)), none, false⟩, ⟨some 2, (Op.assign (Operand.const (Value.bool false))), none, false⟩]) (.seq (.reg [⟨some 3, (Op.fieldAddr 38 (Operand.tmp 1) 0), none, false⟩, ⟨some 4, (Op.load 3 (Operand.tmp 3)), none, false⟩, ⟨some 5, (Op.binOp BinOp.eql 3 (Operand.tmp 4) (Operand.const (Value.int IntKind.i64 1)) 3), none, false⟩, ⟨some 6, (Op.move (Operand.tmp 5)), none, false⟩, ⟨some 7, (Op.fieldAddr 38 (Operand.tmp 1) 1), (some (some 6, true)), false⟩, ⟨some 8, (Op.load 5 (Operand.tmp 7)), (some (some 6, true)), false⟩, ⟨some 9, (Op.call (Call.mk (Callee.value (Operand.func 15)) #[(Operand.tmp 8)] #[5])), (some (some 6, true)), false⟩, ⟨some 10, (Op.pick (Operand.tmp 6) (Operand.tmp 9) (Operand.const (Value.bool false))), none, false⟩, ⟨some 2, (Op.assign (Operand.tmp 10)), none, false⟩]) .ret))
theorem body_seek_letter : Try.f22.body = some code_seek_letter := by kernel_rfl
theorem slim_seek_letter : slim ann_seek_letter code_seek_letter = some ac_seek_letter := by kernel_rfl
theorem name_seek_letter : (Try.f22.name == "runtime.NumGoroutine") = false := by kernel_rfl
theorem enter_seek_letter {args : List AV} {h : Hp} {Q : AE → Hp → Prop} (H : awp Try.prog tab ac_seek_letter (retQ tab [(ResultVar.tmp 2)] Q) ⟨args ++ List.replicate (11 - args.length) .any, h⟩) : ACalls Try.prog 22 args h Q :=
  acalls_of tab_ok mixed Try.func22 body_seek_letter name_seek_letter slim_seek_letter rfl Try.ntmps22 H
/-- stylus/seek.letter -/
def seek_letter.w (a0_ : ApiTok) (Q : Bool → Prop) : Prop :=
  if a0_.Kind = 1 then
    chars_Letter.w a0_.Ch (fun r1 =>
      Q r1)
  else
    Q false
theorem seek_letter.ok {a0_ : ApiTok} {Q : Bool → Prop} (hm : seek_letter.w a0_ Q) (h0 : Hp) : ACalls Try.prog n_seek_letter [(.agg (ApiTok.enc a0_))] h0 (Back h0 (fun r => (abool r)) Q) := by
  refine enter_seek_letter ?_
  unfold seek_letter.w at hm
  have H := AM.Own.nil h0
  simp (maxSteps := 4000000) -implicitDefEqProofs (disch := omega) only [push_cast, Nat.reduceAdd, Nat.reduceLeDiff, Nat.reduceMul, Nat.reduceSub, Nat.reduceLT, Nat.reduceEqDiff, Int.reduceAdd, Int.reduceSub, Int.reduceLE, Int.reduceLT, Int.reduceEq, Int.reduceNe, Int.reduceToNat, Int.reduceNeg, reduceIte, reduceCtorEq, ac_seek_letter]
  refine H.newR (ApiTok.enc a0_) rfl (fun b1 h1 H => ?_)
  have e0 := H.getP 0 rfl
  simp (maxSteps := 4000000) -implicitDefEqProofs (disch := omega) only [push_cast, Nat.reduceAdd, Nat.reduceLeDiff, Nat.reduceMul, Nat.reduceSub, Nat.reduceLT, Nat.reduceEqDiff, Int.reduceAdd, Int.reduceSub, Int.reduceLE, Int.reduceLT, Int.reduceEq, Int.reduceNe, Int.reduceToNat, Int.reduceNeg, reduceIte, reduceCtorEq, e0]
  rw [gfork_cond]
  refine ⟨fun c1 => ?_, fun c1 => ?_⟩
  · replace hm := ifp hm c1
    have e0 := H.getP 0 rfl
    simp (maxSteps := 4000000) -implicitDefEqProofs (disch := omega) only [push_cast, Nat.reduceAdd, Nat.reduceLeDiff, Nat.reduceMul, Nat.reduceSub, Nat.reduceLT, Nat.reduceEqDiff, Int.reduceAdd, Int.reduceSub, Int.reduceLE, Int.reduceLT, Int.reduceEq, Int.reduceNe, Int.reduceToNat, Int.reduceNeg, reduceIte, reduceCtorEq, eq_true c1, e0]
    refine calls_w (fun h => chars_Letter.ok hm h) (fun r1 hm => ?_)
    have e0 := H.getP 0 rfl
    simp (maxSteps := 4000000) -implicitDefEqProofs (disch := omega) only [push_cast, Nat.reduceAdd, Nat.reduceLeDiff, Nat.reduceMul, Nat.reduceSub, Nat.reduceLT, Nat.reduceEqDiff, Int.reduceAdd, Int.reduceSub, Int.reduceLE, Int.reduceLT, Int.reduceEq, Int.reduceNe, Int.reduceToNat, Int.reduceNeg, reduceIte, reduceCtorEq, eq_true c1, e0]
    exact retQ_back (.inl rfl) r1 _ rfl (Shift.refl _ _) H.sub hm
  · replace hm := ifn hm c1
    have e0 := H.getP 0 rfl
    simp (maxSteps := 4000000) -implicitDefEqProofs (disch := omega) only [push_cast, Nat.reduceAdd, Nat.reduceLeDiff, Nat.reduceMul, Nat.reduceSub, Nat.reduceLT, Nat.reduceEqDiff, Int.reduceAdd, Int.reduceSub, Int.reduceLE, Int.reduceLT, Int.reduceEq, Int.reduceNe, Int.reduceToNat, Int.reduceNeg, reduceIte, reduceCtorEq, eq_false c1, e0]
    exact retQ_back (.inl rfl) false _ rfl (Shift.refl _ _) H.sub hm
end Go.Proofs.Ytnenodamppageaa
