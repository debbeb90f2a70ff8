/- Functions of the program: code, what is asked for their answers, the walk (printed by pr.py). -/
import Derived.Test.YtggcmnoacplbkaaDoorPrd
namespace Go.Proofs.YtggcmnoacplbkaaDoor
open Go Go.Proofs.YtggcmnoacplbkaaDoor.AM
set_option maxRecDepth 100000
set_option linter.unusedSimpArgs false
set_option linter.unusedVariables false
set_option maxHeartbeats 4000000
/-! stylus/styluslaw35.PatchTexts -/
abbrev n_styluslaw35_PatchTexts : Nat := 3
noncomputable def code_styluslaw35_PatchTexts : Code := match Tryd.f3.body with | some c => c | none => .skip
def ann_styluslaw35_PatchTexts : Nat → Ann
  | _ => {}
noncomputable def ac_styluslaw35_PatchTexts_c1 : AC :=
  (.seq (.seq (.reg [⟨some 28, (Op.move (Operand.tmp 6)), none, false⟩, ⟨some 29, (Op.binOp BinOp.eql 27 (Operand.tmp 28) (Operand.const (Value.int IntKind.i64 0)) 27), none, false⟩]) (.cond (Operand.tmp 29) (.seq (.reg [⟨some 31, (Op.move (Operand.tmp 5)), none, false⟩, ⟨some 32, (Op.call (Call.mk (Callee.value (Operand.func 7)) #[(Operand.tmp 31)] #[9])), none, false⟩, ⟨some 30, (Op.move (Operand.tmp 32)), none, false⟩, ⟨some 33, (Op.extract (Operand.tmp 30) 0), none, false⟩, ⟨some 34, (Op.extract (Operand.tmp 30) 1), none, false⟩, ⟨some 35, (Op.extract (Operand.tmp 30) 2), none, false⟩, ⟨some 7, (Op.alloc 24), none, false⟩, ⟨none, (Op.store 24 (Operand.tmp 7) (Operand.tmp 33)), none, false⟩, ⟨some 8, (Op.assign (Operand.tmp 34)), none, false⟩, ⟨some 9, (Op.assign (Operand.tmp 35)), none, false⟩]) (.seq (.reg [⟨some 36, (Op.move (Operand.tmp 9)), none, false⟩, ⟨some 37, (Op.binOp BinOp.neq 27 (Operand.tmp 36) (Operand.const (Value.int IntKind.i64 0)) 27), none, false⟩, ⟨some 38, (Op.move (Operand.tmp 37)), none, false⟩, ⟨some 39, (Op.move (Operand.tmp 8)), (some (some 38, false)), false⟩, ⟨some 40, (Op.binOp BinOp.neq 3 (Operand.tmp 39) (Operand.const (Value.int IntKind.i64 0)) 3), (some (some 38, false)), false⟩, ⟨some 41, (Op.pick (Operand.tmp 38) (Operand.const (Value.bool true)) (Operand.tmp 40)), none, false⟩, ⟨some 42, (Op.move (Operand.tmp 41)), none, false⟩, ⟨some 43, (Op.load 24 (Operand.tmp 2)), (some (some 42, false)), false⟩, ⟨some 44, (Op.load 24 (Operand.tmp 7)), (some (some 42, false)), false⟩, ⟨some 45, (Op.call (Call.mk (Callee.value (Operand.func 8)) #[(Operand.tmp 43), (Operand.tmp 44)] #[24, 24])), (some (some 42, false)), false⟩, ⟨some 46, (Op.unOp UnOp.not 4 (Operand.tmp 45)), (some (some 42, false)), false⟩, ⟨some 47, (Op.pick (Operand.tmp 42) (Operand.const (Value.bool true)) (Operand.tmp 46)), none, false⟩]) (.cond (Operand.tmp 47) (.seq (.reg [⟨some 4, (Op.assign (Operand.const (Value.bool false))), none, false⟩]) .ret) .skip))) (.seq (.reg [⟨some 48, (Op.move (Operand.tmp 5)), none, false⟩, ⟨some 49, (Op.binOp BinOp.neq 9 (Operand.tmp 48) (Operand.const (Value.string (ByteArray.mk #[]))) 9), none, false⟩, ⟨some 50, (Op.move (Operand.tmp 49)), none, false⟩, ⟨some 51, (Op.move (Operand.tmp 6)), (some (some 50, false)), false⟩, ⟨some 52, (Op.binOp BinOp.neq 27 (Operand.tmp 51) (Operand.const (Value.int IntKind.i64 1)) 27), (some (some 50, false)), false⟩, ⟨some 53, (Op.pick (Operand.tmp 50) (Operand.const (Value.bool true)) (Operand.tmp 52)), none, false⟩]) (.cond (Operand.tmp 53) (.seq (.reg [⟨some 4, (Op.assign (Operand.const (Value.bool false))), none, false⟩]) .ret) .skip)))) (.seq (.reg [⟨some 55, (Op.move (Operand.tmp 1)), none, false⟩, ⟨some 56, (Op.call (Call.mk (Callee.value (Operand.func 7)) #[(Operand.tmp 55)] #[9])), none, false⟩, ⟨some 54, (Op.move (Operand.tmp 56)), none, false⟩, ⟨some 57, (Op.extract (Operand.tmp 54) 0), none, false⟩, ⟨some 58, (Op.extract (Operand.tmp 54) 1), none, false⟩, ⟨some 59, (Op.extract (Operand.tmp 54) 2), none, false⟩, ⟨some 10, (Op.alloc 24), none, false⟩, ⟨none, (Op.store 24 (Operand.tmp 10) (Operand.tmp 57)), none, false⟩, ⟨some 11, (Op.assign (Operand.tmp 58)), none, false⟩, ⟨some 12, (Op.assign (Operand.tmp 59)), none, false⟩]) (.seq (.seq (.reg [⟨some 60, (Op.move (Operand.tmp 12)), none, false⟩, ⟨some 61, (Op.binOp BinOp.neq 27 (Operand.tmp 60) (Operand.const (Value.int IntKind.i64 0)) 27), none, false⟩]) (.cond (Operand.tmp 61) (.seq (.reg [⟨some 62, (Op.load 24 (Operand.tmp 10)), none, false⟩, ⟨some 63, (Op.build 24 #[]), none, false⟩, ⟨some 64, (Op.call (Call.mk (Callee.value (Operand.func 8)) #[(Operand.tmp 62), (Operand.tmp 63)] #[24, 24])), none, false⟩, ⟨some 65, (Op.move (Operand.tmp 64)), none, false⟩, ⟨some 66, (Op.move (Operand.tmp 11)), (some (some 65, true)), false⟩, ⟨some 67, (Op.binOp BinOp.gtr 3 (Operand.tmp 66) (Operand.const (Value.int IntKind.i64 0)) 3), (some (some 65, true)), false⟩, ⟨some 68, (Op.pick (Operand.tmp 65) (Operand.tmp 67) (Operand.const (Value.bool false))), none, false⟩, ⟨some 69, (Op.move (Operand.tmp 68)), none, false⟩, ⟨some 70, (Op.call (Call.mk (Callee.value (Operand.func 5)) #[] #[])), (some (some 69, true)), false⟩, ⟨some 71, (Op.pick (Operand.tmp 69) (Operand.tmp 70) (Operand.const (Value.bool false))), none, false⟩, ⟨some 4, (Op.assign (Operand.tmp 71)), none, false⟩]) .ret) .skip)) (.seq (.reg [⟨some 73, (Op.load 24 (Operand.tmp 10)), none, false⟩, ⟨some 74, (Op.call (Call.mk (Callee.value (Operand.func 6)) #[(Operand.tmp 73)] #[24])), none, false⟩, ⟨some 72, (Op.move (Operand.tmp 74)), none, false⟩, ⟨some 75, (Op.extract (Operand.tmp 72) 0), none, false⟩, ⟨some 76, (Op.extract (Operand.tmp 72) 1), none, false⟩, ⟨some 13, (Op.assign (Operand.tmp 75)), none, false⟩, ⟨some 14, (Op.assign (Operand.tmp 76)), none, false⟩]) (.seq (.reg [⟨some 77, (Op.move (Operand.tmp 13)), none, false⟩, ⟨some 78, (Op.move (Operand.tmp 1)), none, false⟩, ⟨some 79, (Op.binOp BinOp.eql 9 (Operand.tmp 77) (Operand.tmp 78) 9), none, false⟩, ⟨some 80, (Op.move (Operand.tmp 79)), none, false⟩, ⟨some 81, (Op.move (Operand.tmp 14)), (some (some 80, true)), false⟩, ⟨some 82, (Op.binOp BinOp.eql 27 (Operand.tmp 81) (Operand.const (Value.int IntKind.i64 0)) 27), (some (some 80, true)), false⟩, ⟨some 83, (Op.pick (Operand.tmp 80) (Operand.tmp 82) (Operand.const (Value.bool false))), none, false⟩, ⟨some 84, (Op.move (Operand.tmp 83)), none, false⟩, ⟨some 85, (Op.call (Call.mk (Callee.value (Operand.func 5)) #[] #[])), (some (some 84, true)), false⟩, ⟨some 86, (Op.pick (Operand.tmp 84) (Operand.tmp 85) (Operand.const (Value.bool false))), none, false⟩, ⟨some 4, (Op.assign (Operand.tmp 86)), none, false⟩]) .ret)))))
noncomputable def ac_styluslaw35_PatchTexts : AC :=
  (.seq (.reg [⟨some 2, (Op.box 24 (Operand.tmp 0)), none, false⟩, ⟨some 4, (Op.assign (Operand.const (Value.bool false))), none, false⟩]) (.seq (.seq (.reg [⟨some 15, (Op.load 24 (Operand.tmp 2)), none, false⟩, ⟨some 16, (Op.call (Call.mk (Callee.value (Operand.func 4)) #[(Operand.tmp 15)] #[24])), none, false⟩, ⟨some 17, (Op.move (Operand.tmp 16)), none, false⟩, ⟨some 18, (Op.move (Operand.tmp 1)), (some (some 17, false)), false⟩, ⟨some 19, (Op.call (Call.mk (Callee.builtin Builtin.len) #[(Operand.tmp 18)] #[9])), (some (some 17, false)), false⟩, ⟨some 20, (Op.binOp BinOp.gtr 3 (Operand.tmp 19) (Operand.const (Value.int IntKind.i64 3000)) 3), (some (some 17, false)), false⟩, ⟨some 21, (Op.pick (Operand.tmp 17) (Operand.const (Value.bool true)) (Operand.tmp 20)), none, false⟩]) (.cond (Operand.tmp 21) (.seq (.reg [⟨some 22, (Op.call (Call.mk (Callee.value (Operand.func 5)) #[] #[])), none, false⟩, ⟨some 4, (Op.assign (Operand.tmp 22)), none, false⟩]) .ret) .skip)) (.seq (.reg [⟨some 24, (Op.load 24 (Operand.tmp 2)), none, false⟩, ⟨some 25, (Op.call (Call.mk (Callee.value (Operand.func 6)) #[(Operand.tmp 24)] #[24])), none, false⟩, ⟨some 23, (Op.move (Operand.tmp 25)), none, false⟩, ⟨some 26, (Op.extract (Operand.tmp 23) 0), none, false⟩, ⟨some 27, (Op.extract (Operand.tmp 23) 1), none, false⟩, ⟨some 5, (Op.assign (Operand.tmp 26)), none, false⟩, ⟨some 6, (Op.assign (Operand.tmp 27)), none, false⟩]) ac_styluslaw35_PatchTexts_c1)))
theorem body_styluslaw35_PatchTexts : Tryd.f3.body = some code_styluslaw35_PatchTexts := by kernel_rfl
theorem slim_styluslaw35_PatchTexts : slim ann_styluslaw35_PatchTexts code_styluslaw35_PatchTexts = some ac_styluslaw35_PatchTexts := by kernel_rfl
theorem name_styluslaw35_PatchTexts : (Tryd.f3.name == "runtime.NumGoroutine") = false := by kernel_rfl
theorem enter_styluslaw35_PatchTexts {args : List AV} {h : Hp} {Q : AE → Hp → Prop} (H : awp Tryd.prog tab ac_styluslaw35_PatchTexts (retQ tab [(ResultVar.tmp 4)] Q) ⟨args ++ List.replicate (87 - args.length) .any, h⟩) : ACalls Tryd.prog 3 args h Q :=
  acalls_of tab_ok mixed Tryd.func3 body_styluslaw35_PatchTexts name_styluslaw35_PatchTexts slim_styluslaw35_PatchTexts rfl Tryd.ntmps3 H
/-- stylus/styluslaw35.PatchTexts -/
def styluslaw35_PatchTexts.w (a0_ : ApiPatch) (a1_ : ByteArray) (Q : Bool → Prop) : Prop :=
  styluslaw35_many.w a0_ (fun r1 =>
    if r1 = true then
      styluslaw35_awake.w  (fun r2 =>
        Q r2)
    else
      if 3000 < (a1_.size : Int) then
        styluslaw35_awake.w  (fun r3 =>
          Q r3)
      else
        patch_Write.w a0_ (fun r4 =>
          wcut (α := Unit) (fun k1 =>
            if r4.2 = 0 then
              patch_Read.w r4.1 (fun r5 =>
                if r5.2.2 = 0 then
                  if r5.2.1 = 0 then
                    stylusref35_Same.w a0_ r5.1 (fun r6 =>
                      if (!r6) = true then
                        Q false
                      else
                        k1 ())
                  else
                    Q false
                else
                  Q false)
            else
              if r4.1 = (ByteArray.mk #[]) then
                if r4.2 = 1 then
                  k1 ()
                else
                  Q false
              else
                Q false) (fun _ =>
            patch_Read.w a1_ (fun r7 =>
              if r7.2.2 = 0 then
                patch_Write.w r7.1 (fun r10 =>
                  if r10.1 = a1_ then
                    if r10.2 = 0 then
                      styluslaw35_awake.w  (fun r11 =>
                        Q r11)
                    else
                      Q false
                  else
                    Q false)
              else
                stylusref35_Same.w r7.1 (⟨0, ([] : List ApiChange)⟩ : ApiPatch) (fun r8 =>
                  if r8 = true then
                    if 0 < r7.2.1 then
                      styluslaw35_awake.w  (fun r9 =>
                        Q r9)
                    else
                      Q false
                  else
                    Q false)))))
theorem styluslaw35_PatchTexts.ok {a0_ : ApiPatch} {a1_ : ByteArray} {Q : Bool → Prop} (hm : styluslaw35_PatchTexts.w a0_ a1_ Q) (h0 : Hp) : ACalls Tryd.prog n_styluslaw35_PatchTexts [(.agg (ApiPatch.enc a0_)), (astr a1_)] h0 (Back h0 (fun r => (abool r)) Q) := by
  refine enter_styluslaw35_PatchTexts ?_
  unfold styluslaw35_PatchTexts.w at hm
  have H := AM.Own.nil h0
  simp (maxSteps := 4000000) -implicitDefEqProofs (disch := omega) only [push_cast, Nat.reduceAdd, Nat.reduceLeDiff, Nat.reduceMul, Nat.reduceSub, Nat.reduceLT, Nat.reduceEqDiff, Int.reduceAdd, Int.reduceSub, Int.reduceLE, Int.reduceLT, Int.reduceEq, Int.reduceNe, Int.reduceToNat, Int.reduceNeg, reduceIte, reduceCtorEq, ac_styluslaw35_PatchTexts]
  refine H.newR (ApiPatch.enc a0_) rfl (fun b1 h1 H => ?_)
  have e0 := H.getP 0 rfl
  simp (maxSteps := 4000000) -implicitDefEqProofs (disch := omega) only [push_cast, Nat.reduceAdd, Nat.reduceLeDiff, Nat.reduceMul, Nat.reduceSub, Nat.reduceLT, Nat.reduceEqDiff, Int.reduceAdd, Int.reduceSub, Int.reduceLE, Int.reduceLT, Int.reduceEq, Int.reduceNe, Int.reduceToNat, Int.reduceNeg, reduceIte, reduceCtorEq, e0]
  refine calls_w (fun h => styluslaw35_many.ok hm h) (fun r1 hm => ?_)
  have e0 := H.getP 0 rfl
  simp (maxSteps := 4000000) -implicitDefEqProofs (disch := omega) only [push_cast, Nat.reduceAdd, Nat.reduceLeDiff, Nat.reduceMul, Nat.reduceSub, Nat.reduceLT, Nat.reduceEqDiff, Int.reduceAdd, Int.reduceSub, Int.reduceLE, Int.reduceLT, Int.reduceEq, Int.reduceNe, Int.reduceToNat, Int.reduceNeg, reduceIte, reduceCtorEq, e0]
  rw [gfork_bool']
  refine ⟨fun c1 => ?_, fun c1 => ?_⟩
  · replace hm := ifp hm c1
    have e0 := H.getP 0 rfl
    simp (maxSteps := 4000000) -implicitDefEqProofs (disch := omega) only [push_cast, Nat.reduceAdd, Nat.reduceLeDiff, Nat.reduceMul, Nat.reduceSub, Nat.reduceLT, Nat.reduceEqDiff, Int.reduceAdd, Int.reduceSub, Int.reduceLE, Int.reduceLT, Int.reduceEq, Int.reduceNe, Int.reduceToNat, Int.reduceNeg, reduceIte, reduceCtorEq, c1, e0]
    refine calls_w (fun h => styluslaw35_awake.ok hm h) (fun r2 hm => ?_)
    have e0 := H.getP 0 rfl
    simp (maxSteps := 4000000) -implicitDefEqProofs (disch := omega) only [push_cast, Nat.reduceAdd, Nat.reduceLeDiff, Nat.reduceMul, Nat.reduceSub, Nat.reduceLT, Nat.reduceEqDiff, Int.reduceAdd, Int.reduceSub, Int.reduceLE, Int.reduceLT, Int.reduceEq, Int.reduceNe, Int.reduceToNat, Int.reduceNeg, reduceIte, reduceCtorEq, c1, e0]
    exact retQ_back (.inl rfl) r2 _ rfl (Shift.refl _ _) H.sub hm
  · replace hm := ifn hm (by rw [c1]; exact Bool.false_ne_true)
    have e0 := H.getP 0 rfl
    simp (maxSteps := 4000000) -implicitDefEqProofs (disch := omega) only [push_cast, Nat.reduceAdd, Nat.reduceLeDiff, Nat.reduceMul, Nat.reduceSub, Nat.reduceLT, Nat.reduceEqDiff, Int.reduceAdd, Int.reduceSub, Int.reduceLE, Int.reduceLT, Int.reduceEq, Int.reduceNe, Int.reduceToNat, Int.reduceNeg, reduceIte, reduceCtorEq, c1, e0]
    rw [fork_cond]
    refine ⟨fun c2 => ?_, fun c2 => ?_⟩
    · replace hm := ifp hm c2
      have e0 := H.getP 0 rfl
      simp (maxSteps := 4000000) -implicitDefEqProofs (disch := omega) only [push_cast, Nat.reduceAdd, Nat.reduceLeDiff, Nat.reduceMul, Nat.reduceSub, Nat.reduceLT, Nat.reduceEqDiff, Int.reduceAdd, Int.reduceSub, Int.reduceLE, Int.reduceLT, Int.reduceEq, Int.reduceNe, Int.reduceToNat, Int.reduceNeg, reduceIte, reduceCtorEq, c1, eq_true c2, e0]
      refine calls_w (fun h => styluslaw35_awake.ok hm h) (fun r3 hm => ?_)
      have e0 := H.getP 0 rfl
      simp (maxSteps := 4000000) -implicitDefEqProofs (disch := omega) only [push_cast, Nat.reduceAdd, Nat.reduceLeDiff, Nat.reduceMul, Nat.reduceSub, Nat.reduceLT, Nat.reduceEqDiff, Int.reduceAdd, Int.reduceSub, Int.reduceLE, Int.reduceLT, Int.reduceEq, Int.reduceNe, Int.reduceToNat, Int.reduceNeg, reduceIte, reduceCtorEq, c1, eq_true c2, e0]
      exact retQ_back (.inl rfl) r3 _ rfl (Shift.refl _ _) H.sub hm
    · replace hm := ifn hm c2
      have e0 := H.getP 0 rfl
      simp (maxSteps := 4000000) -implicitDefEqProofs (disch := omega) only [push_cast, Nat.reduceAdd, Nat.reduceLeDiff, Nat.reduceMul, Nat.reduceSub, Nat.reduceLT, Nat.reduceEqDiff, Int.reduceAdd, Int.reduceSub, Int.reduceLE, Int.reduceLT, Int.reduceEq, Int.reduceNe, Int.reduceToNat, Int.reduceNeg, reduceIte, reduceCtorEq, c1, eq_false c2, e0]
      refine calls_w (fun h => patch_Write.ok hm h) (fun r4 hm => ?_)
      have e0 := H.getP 0 rfl
      simp (maxSteps := 4000000) -implicitDefEqProofs (disch := omega) only [push_cast, Nat.reduceAdd, Nat.reduceLeDiff, Nat.reduceMul, Nat.reduceSub, Nat.reduceLT, Nat.reduceEqDiff, Int.reduceAdd, Int.reduceSub, Int.reduceLE, Int.reduceLT, Int.reduceEq, Int.reduceNe, Int.reduceToNat, Int.reduceNeg, reduceIte, reduceCtorEq, c1, eq_false c2, e0]
      obtain ⟨k1, hm, hk1⟩ := wcut_elim hm
      refine awp_cut (fun s' => ∃ (h2 : Hp), Like s'.tm ((List.replicate 87 none).set 1 (some (astr a1_))) ∧ s'.h = h2 ∧ AM.Own h0 h2 [] ∧ k1 ()) ?_ ?_
      · have e0 := H.getP 0 rfl
        simp (maxSteps := 4000000) -implicitDefEqProofs (disch := omega) only [push_cast, Nat.reduceAdd, Nat.reduceLeDiff, Nat.reduceMul, Nat.reduceSub, Nat.reduceLT, Nat.reduceEqDiff, Int.reduceAdd, Int.reduceSub, Int.reduceLE, Int.reduceLT, Int.reduceEq, Int.reduceNe, Int.reduceToNat, Int.reduceNeg, reduceIte, reduceCtorEq, c1, eq_false c2, e0]
        rw [fork_cond]
        refine ⟨fun c3 => ?_, fun c3 => ?_⟩
        · replace hm := ifp hm c3
          have e0 := H.getP 0 rfl
          simp (maxSteps := 4000000) -implicitDefEqProofs (disch := omega) only [push_cast, Nat.reduceAdd, Nat.reduceLeDiff, Nat.reduceMul, Nat.reduceSub, Nat.reduceLT, Nat.reduceEqDiff, Int.reduceAdd, Int.reduceSub, Int.reduceLE, Int.reduceLT, Int.reduceEq, Int.reduceNe, Int.reduceToNat, Int.reduceNeg, reduceIte, reduceCtorEq, c1, eq_false c2, eq_true c3, e0]
          refine calls_w (fun h => patch_Read.ok hm h) (fun r5 hm => ?_)
          have e0 := H.getP 0 rfl
          simp (maxSteps := 4000000) -implicitDefEqProofs (disch := omega) only [push_cast, Nat.reduceAdd, Nat.reduceLeDiff, Nat.reduceMul, Nat.reduceSub, Nat.reduceLT, Nat.reduceEqDiff, Int.reduceAdd, Int.reduceSub, Int.reduceLE, Int.reduceLT, Int.reduceEq, Int.reduceNe, Int.reduceToNat, Int.reduceNeg, reduceIte, reduceCtorEq, c1, eq_false c2, eq_true c3, e0]
          refine H.newR [(aint 0), anil] rfl (fun b2 h3 H => ?_)
          have e0 := H.getP 0 rfl
          have e1 := H.getP 1 rfl
          simp (maxSteps := 4000000) -implicitDefEqProofs (disch := omega) only [push_cast, Nat.reduceAdd, Nat.reduceLeDiff, Nat.reduceMul, Nat.reduceSub, Nat.reduceLT, Nat.reduceEqDiff, Int.reduceAdd, Int.reduceSub, Int.reduceLE, Int.reduceLT, Int.reduceEq, Int.reduceNe, Int.reduceToNat, Int.reduceNeg, reduceIte, reduceCtorEq, c1, eq_false c2, eq_true c3, e0, e1]
          refine H.stP 1 (ApiPatch.enc r5.1) rfl rfl rfl rfl (Nat.le_of_ble_eq_true rfl) rfl (fun h4 H => ?_)
          have e0 := H.getP 0 rfl
          have e1 := H.getP 1 rfl
          simp (maxSteps := 4000000) -implicitDefEqProofs (disch := omega) only [push_cast, Nat.reduceAdd, Nat.reduceLeDiff, Nat.reduceMul, Nat.reduceSub, Nat.reduceLT, Nat.reduceEqDiff, Int.reduceAdd, Int.reduceSub, Int.reduceLE, Int.reduceLT, Int.reduceEq, Int.reduceNe, Int.reduceToNat, Int.reduceNeg, reduceIte, reduceCtorEq, c1, eq_false c2, eq_true c3, e0, e1]
          rw [gfork_cond']
          refine ⟨fun c4 => ?_, fun c4 => ?_⟩
          · replace hm := ifn hm c4
            have e0 := H.getP 0 rfl
            have e1 := H.getP 1 rfl
            simp (maxSteps := 4000000) -implicitDefEqProofs (disch := omega) only [push_cast, Nat.reduceAdd, Nat.reduceLeDiff, Nat.reduceMul, Nat.reduceSub, Nat.reduceLT, Nat.reduceEqDiff, Int.reduceAdd, Int.reduceSub, Int.reduceLE, Int.reduceLT, Int.reduceEq, Int.reduceNe, Int.reduceToNat, Int.reduceNeg, reduceIte, reduceCtorEq, c1, eq_false c2, eq_true c3, eq_false c4, e0, e1]
            exact retQ_back (.inl rfl) false _ rfl (Shift.refl _ _) H.sub hm
          · replace c4 := Decidable.not_not.1 c4
            replace hm := ifp hm c4
            have e0 := H.getP 0 rfl
            have e1 := H.getP 1 rfl
            simp (maxSteps := 4000000) -implicitDefEqProofs (disch := omega) only [push_cast, Nat.reduceAdd, Nat.reduceLeDiff, Nat.reduceMul, Nat.reduceSub, Nat.reduceLT, Nat.reduceEqDiff, Int.reduceAdd, Int.reduceSub, Int.reduceLE, Int.reduceLT, Int.reduceEq, Int.reduceNe, Int.reduceToNat, Int.reduceNeg, reduceIte, reduceCtorEq, c1, eq_false c2, eq_true c3, eq_true c4, e0, e1]
            rw [gfork_cond']
            refine ⟨fun c5 => ?_, fun c5 => ?_⟩
            · replace hm := ifn hm c5
              have e0 := H.getP 0 rfl
              have e1 := H.getP 1 rfl
              simp (maxSteps := 4000000) -implicitDefEqProofs (disch := omega) only [push_cast, Nat.reduceAdd, Nat.reduceLeDiff, Nat.reduceMul, Nat.reduceSub, Nat.reduceLT, Nat.reduceEqDiff, Int.reduceAdd, Int.reduceSub, Int.reduceLE, Int.reduceLT, Int.reduceEq, Int.reduceNe, Int.reduceToNat, Int.reduceNeg, reduceIte, reduceCtorEq, c1, eq_false c2, eq_true c3, eq_true c4, eq_false c5, e0, e1]
              exact retQ_back (.inl rfl) false _ rfl (Shift.refl _ _) H.sub hm
            · replace c5 := Decidable.not_not.1 c5
              replace hm := ifp hm c5
              have e0 := H.getP 0 rfl
              have e1 := H.getP 1 rfl
              simp (maxSteps := 4000000) -implicitDefEqProofs (disch := omega) only [push_cast, Nat.reduceAdd, Nat.reduceLeDiff, Nat.reduceMul, Nat.reduceSub, Nat.reduceLT, Nat.reduceEqDiff, Int.reduceAdd, Int.reduceSub, Int.reduceLE, Int.reduceLT, Int.reduceEq, Int.reduceNe, Int.reduceToNat, Int.reduceNeg, reduceIte, reduceCtorEq, c1, eq_false c2, eq_true c3, eq_true c4, eq_true c5, e0, e1]
              refine calls_w (fun h => stylusref35_Same.ok hm h) (fun r6 hm => ?_)
              have e0 := H.getP 0 rfl
              have e1 := H.getP 1 rfl
              simp (maxSteps := 4000000) -implicitDefEqProofs (disch := omega) only [push_cast, Nat.reduceAdd, Nat.reduceLeDiff, Nat.reduceMul, Nat.reduceSub, Nat.reduceLT, Nat.reduceEqDiff, Int.reduceAdd, Int.reduceSub, Int.reduceLE, Int.reduceLT, Int.reduceEq, Int.reduceNe, Int.reduceToNat, Int.reduceNeg, reduceIte, reduceCtorEq, c1, eq_false c2, eq_true c3, eq_true c4, eq_true c5, e0, e1]
              rw [fork_bool]
              refine ⟨fun c6 => ?_, fun c6 => ?_⟩
              · replace hm := ifp hm c6
                have e0 := H.getP 0 rfl
                have e1 := H.getP 1 rfl
                simp (maxSteps := 4000000) -implicitDefEqProofs (disch := omega) only [push_cast, Nat.reduceAdd, Nat.reduceLeDiff, Nat.reduceMul, Nat.reduceSub, Nat.reduceLT, Nat.reduceEqDiff, Int.reduceAdd, Int.reduceSub, Int.reduceLE, Int.reduceLT, Int.reduceEq, Int.reduceNe, Int.reduceToNat, Int.reduceNeg, reduceIte, reduceCtorEq, c1, eq_false c2, eq_true c3, eq_true c4, eq_true c5, c6, e0, e1]
                exact retQ_back (.inl rfl) false _ rfl (Shift.refl _ _) H.sub hm
              · replace hm := ifn hm (by rw [c6]; exact Bool.false_ne_true)
                have e0 := H.getP 0 rfl
                have e1 := H.getP 1 rfl
                simp (maxSteps := 4000000) -implicitDefEqProofs (disch := omega) only [push_cast, Nat.reduceAdd, Nat.reduceLeDiff, Nat.reduceMul, Nat.reduceSub, Nat.reduceLT, Nat.reduceEqDiff, Int.reduceAdd, Int.reduceSub, Int.reduceLE, Int.reduceLT, Int.reduceEq, Int.reduceNe, Int.reduceToNat, Int.reduceNeg, reduceIte, reduceCtorEq, c1, eq_false c2, eq_true c3, eq_true c4, eq_true c5, c6, e0, e1]
                replace H := H.perm [] (by decide)
                exact ⟨h4, by simp [Like, push_cast], rfl, H, hm⟩
        · replace hm := ifn hm c3
          have e0 := H.getP 0 rfl
          simp (maxSteps := 4000000) -implicitDefEqProofs (disch := omega) only [push_cast, Nat.reduceAdd, Nat.reduceLeDiff, Nat.reduceMul, Nat.reduceSub, Nat.reduceLT, Nat.reduceEqDiff, Int.reduceAdd, Int.reduceSub, Int.reduceLE, Int.reduceLT, Int.reduceEq, Int.reduceNe, Int.reduceToNat, Int.reduceNeg, reduceIte, reduceCtorEq, c1, eq_false c2, eq_false c3, e0]
          rw [gfork_cond']
          refine ⟨fun c7 => ?_, fun c7 => ?_⟩
          · replace hm := ifn hm c7
            have e0 := H.getP 0 rfl
            simp (maxSteps := 4000000) -implicitDefEqProofs (disch := omega) only [push_cast, Nat.reduceAdd, Nat.reduceLeDiff, Nat.reduceMul, Nat.reduceSub, Nat.reduceLT, Nat.reduceEqDiff, Int.reduceAdd, Int.reduceSub, Int.reduceLE, Int.reduceLT, Int.reduceEq, Int.reduceNe, Int.reduceToNat, Int.reduceNeg, reduceIte, reduceCtorEq, c1, eq_false c2, eq_false c3, eq_false c7, e0]
            exact retQ_back (.inl rfl) false _ rfl (Shift.refl _ _) H.sub hm
          · replace c7 := Decidable.not_not.1 c7
            replace hm := ifp hm c7
            have e0 := H.getP 0 rfl
            simp (maxSteps := 4000000) -implicitDefEqProofs (disch := omega) only [push_cast, Nat.reduceAdd, Nat.reduceLeDiff, Nat.reduceMul, Nat.reduceSub, Nat.reduceLT, Nat.reduceEqDiff, Int.reduceAdd, Int.reduceSub, Int.reduceLE, Int.reduceLT, Int.reduceEq, Int.reduceNe, Int.reduceToNat, Int.reduceNeg, reduceIte, reduceCtorEq, c1, eq_false c2, eq_false c3, eq_true c7, e0]
            rw [fork_cond]
            refine ⟨fun c8 => ?_, fun c8 => ?_⟩
            · replace hm := ifn hm c8
              have e0 := H.getP 0 rfl
              simp (maxSteps := 4000000) -implicitDefEqProofs (disch := omega) only [push_cast, Nat.reduceAdd, Nat.reduceLeDiff, Nat.reduceMul, Nat.reduceSub, Nat.reduceLT, Nat.reduceEqDiff, Int.reduceAdd, Int.reduceSub, Int.reduceLE, Int.reduceLT, Int.reduceEq, Int.reduceNe, Int.reduceToNat, Int.reduceNeg, reduceIte, reduceCtorEq, c1, eq_false c2, eq_false c3, eq_true c7, eq_false c8, e0]
              exact retQ_back (.inl rfl) false _ rfl (Shift.refl _ _) H.sub hm
            · replace c8 := Decidable.not_not.1 c8
              replace hm := ifp hm c8
              have e0 := H.getP 0 rfl
              simp (maxSteps := 4000000) -implicitDefEqProofs (disch := omega) only [push_cast, Nat.reduceAdd, Nat.reduceLeDiff, Nat.reduceMul, Nat.reduceSub, Nat.reduceLT, Nat.reduceEqDiff, Int.reduceAdd, Int.reduceSub, Int.reduceLE, Int.reduceLT, Int.reduceEq, Int.reduceNe, Int.reduceToNat, Int.reduceNeg, reduceIte, reduceCtorEq, c1, eq_false c2, eq_false c3, eq_true c7, eq_true c8, e0]
              replace H := H.perm [] (by decide)
              exact ⟨h1, by simp [Like, push_cast], rfl, H, hm⟩
      · rintro ⟨tm, h2⟩ ⟨_, hL, rfl, H, hm⟩
        dsimp only at hL H
        obtain ⟨D, rfl⟩ := hL.fill 0
        replace hm := hk1 _ hm
        simp (maxSteps := 4000000) -implicitDefEqProofs (disch := omega) only [push_cast, Nat.reduceAdd, Nat.reduceLeDiff, Nat.reduceMul, Nat.reduceSub, Nat.reduceLT, Nat.reduceEqDiff, Int.reduceAdd, Int.reduceSub, Int.reduceLE, Int.reduceLT, Int.reduceEq, Int.reduceNe, Int.reduceToNat, Int.reduceNeg, reduceIte, reduceCtorEq, c1, eq_false c2]
        refine calls_w (fun h => patch_Read.ok hm h) (fun r7 hm => ?_)
        simp (maxSteps := 4000000) -implicitDefEqProofs (disch := omega) only [push_cast, Nat.reduceAdd, Nat.reduceLeDiff, Nat.reduceMul, Nat.reduceSub, Nat.reduceLT, Nat.reduceEqDiff, Int.reduceAdd, Int.reduceSub, Int.reduceLE, Int.reduceLT, Int.reduceEq, Int.reduceNe, Int.reduceToNat, Int.reduceNeg, reduceIte, reduceCtorEq, c1, eq_false c2]
        refine H.newR [(aint 0), anil] rfl (fun b3 h5 H => ?_)
        have e0 := H.getP 0 rfl
        simp (maxSteps := 4000000) -implicitDefEqProofs (disch := omega) only [push_cast, Nat.reduceAdd, Nat.reduceLeDiff, Nat.reduceMul, Nat.reduceSub, Nat.reduceLT, Nat.reduceEqDiff, Int.reduceAdd, Int.reduceSub, Int.reduceLE, Int.reduceLT, Int.reduceEq, Int.reduceNe, Int.reduceToNat, Int.reduceNeg, reduceIte, reduceCtorEq, c1, eq_false c2, e0]
        refine H.stP 0 (ApiPatch.enc r7.1) rfl rfl rfl rfl (Nat.le_of_ble_eq_true rfl) rfl (fun h6 H => ?_)
        have e0 := H.getP 0 rfl
        simp (maxSteps := 4000000) -implicitDefEqProofs (disch := omega) only [push_cast, Nat.reduceAdd, Nat.reduceLeDiff, Nat.reduceMul, Nat.reduceSub, Nat.reduceLT, Nat.reduceEqDiff, Int.reduceAdd, Int.reduceSub, Int.reduceLE, Int.reduceLT, Int.reduceEq, Int.reduceNe, Int.reduceToNat, Int.reduceNeg, reduceIte, reduceCtorEq, c1, eq_false c2, e0]
        rw [fork_cond]
        refine ⟨fun c9 => ?_, fun c9 => ?_⟩
        · replace hm := ifn hm c9
          have e0 := H.getP 0 rfl
          simp (maxSteps := 4000000) -implicitDefEqProofs (disch := omega) only [push_cast, Nat.reduceAdd, Nat.reduceLeDiff, Nat.reduceMul, Nat.reduceSub, Nat.reduceLT, Nat.reduceEqDiff, Int.reduceAdd, Int.reduceSub, Int.reduceLE, Int.reduceLT, Int.reduceEq, Int.reduceNe, Int.reduceToNat, Int.reduceNeg, reduceIte, reduceCtorEq, c1, eq_false c2, eq_false c9, e0]
          refine calls_fw (Shifts.at (Shift.agg (Shift.nil _ 2) [_] []) [_] []) (fun h => stylusref35_Same.ok hm h) (fun r8 hm => ?_)
          have e0 := H.getP 0 rfl
          simp (maxSteps := 4000000) -implicitDefEqProofs (disch := omega) only [push_cast, Nat.reduceAdd, Nat.reduceLeDiff, Nat.reduceMul, Nat.reduceSub, Nat.reduceLT, Nat.reduceEqDiff, Int.reduceAdd, Int.reduceSub, Int.reduceLE, Int.reduceLT, Int.reduceEq, Int.reduceNe, Int.reduceToNat, Int.reduceNeg, reduceIte, reduceCtorEq, c1, eq_false c2, eq_false c9, e0]
          rw [gfork_bool]
          refine ⟨fun c10 => ?_, fun c10 => ?_⟩
          · replace hm := ifp hm c10
            have e0 := H.getP 0 rfl
            simp (maxSteps := 4000000) -implicitDefEqProofs (disch := omega) only [push_cast, Nat.reduceAdd, Nat.reduceLeDiff, Nat.reduceMul, Nat.reduceSub, Nat.reduceLT, Nat.reduceEqDiff, Int.reduceAdd, Int.reduceSub, Int.reduceLE, Int.reduceLT, Int.reduceEq, Int.reduceNe, Int.reduceToNat, Int.reduceNeg, reduceIte, reduceCtorEq, c1, eq_false c2, eq_false c9, c10, e0]
            rw [gfork_cond]
            refine ⟨fun c11 => ?_, fun c11 => ?_⟩
            · replace hm := ifp hm c11
              have e0 := H.getP 0 rfl
              simp (maxSteps := 4000000) -implicitDefEqProofs (disch := omega) only [push_cast, Nat.reduceAdd, Nat.reduceLeDiff, Nat.reduceMul, Nat.reduceSub, Nat.reduceLT, Nat.reduceEqDiff, Int.reduceAdd, Int.reduceSub, Int.reduceLE, Int.reduceLT, Int.reduceEq, Int.reduceNe, Int.reduceToNat, Int.reduceNeg, reduceIte, reduceCtorEq, c1, eq_false c2, eq_false c9, c10, eq_true c11, e0]
              refine calls_w (fun h => styluslaw35_awake.ok hm h) (fun r9 hm => ?_)
              have e0 := H.getP 0 rfl
              simp (maxSteps := 4000000) -implicitDefEqProofs (disch := omega) only [push_cast, Nat.reduceAdd, Nat.reduceLeDiff, Nat.reduceMul, Nat.reduceSub, Nat.reduceLT, Nat.reduceEqDiff, Int.reduceAdd, Int.reduceSub, Int.reduceLE, Int.reduceLT, Int.reduceEq, Int.reduceNe, Int.reduceToNat, Int.reduceNeg, reduceIte, reduceCtorEq, c1, eq_false c2, eq_false c9, c10, eq_true c11, e0]
              exact retQ_back (.inl rfl) r9 _ rfl (Shift.refl _ _) H.sub hm
            · replace hm := ifn hm c11
              have e0 := H.getP 0 rfl
              simp (maxSteps := 4000000) -implicitDefEqProofs (disch := omega) only [push_cast, Nat.reduceAdd, Nat.reduceLeDiff, Nat.reduceMul, Nat.reduceSub, Nat.reduceLT, Nat.reduceEqDiff, Int.reduceAdd, Int.reduceSub, Int.reduceLE, Int.reduceLT, Int.reduceEq, Int.reduceNe, Int.reduceToNat, Int.reduceNeg, reduceIte, reduceCtorEq, c1, eq_false c2, eq_false c9, c10, eq_false c11, e0]
              exact retQ_back (.inl rfl) false _ rfl (Shift.refl _ _) H.sub hm
          · replace hm := ifn hm (by rw [c10]; exact Bool.false_ne_true)
            have e0 := H.getP 0 rfl
            simp (maxSteps := 4000000) -implicitDefEqProofs (disch := omega) only [push_cast, Nat.reduceAdd, Nat.reduceLeDiff, Nat.reduceMul, Nat.reduceSub, Nat.reduceLT, Nat.reduceEqDiff, Int.reduceAdd, Int.reduceSub, Int.reduceLE, Int.reduceLT, Int.reduceEq, Int.reduceNe, Int.reduceToNat, Int.reduceNeg, reduceIte, reduceCtorEq, c1, eq_false c2, eq_false c9, c10, e0]
            exact retQ_back (.inl rfl) false _ rfl (Shift.refl _ _) H.sub hm
        · replace c9 := Decidable.not_not.1 c9
          replace hm := ifp hm c9
          have e0 := H.getP 0 rfl
          simp (maxSteps := 4000000) -implicitDefEqProofs (disch := omega) only [push_cast, Nat.reduceAdd, Nat.reduceLeDiff, Nat.reduceMul, Nat.reduceSub, Nat.reduceLT, Nat.reduceEqDiff, Int.reduceAdd, Int.reduceSub, Int.reduceLE, Int.reduceLT, Int.reduceEq, Int.reduceNe, Int.reduceToNat, Int.reduceNeg, reduceIte, reduceCtorEq, c1, eq_false c2, eq_true c9, e0]
          refine calls_w (fun h => patch_Write.ok hm h) (fun r10 hm => ?_)
          have e0 := H.getP 0 rfl
          simp (maxSteps := 4000000) -implicitDefEqProofs (disch := omega) only [push_cast, Nat.reduceAdd, Nat.reduceLeDiff, Nat.reduceMul, Nat.reduceSub, Nat.reduceLT, Nat.reduceEqDiff, Int.reduceAdd, Int.reduceSub, Int.reduceLE, Int.reduceLT, Int.reduceEq, Int.reduceNe, Int.reduceToNat, Int.reduceNeg, reduceIte, reduceCtorEq, c1, eq_false c2, eq_true c9, e0]
          rw [gfork_cond]
          refine ⟨fun c12 => ?_, fun c12 => ?_⟩
          · replace hm := ifp hm c12
            have e0 := H.getP 0 rfl
            simp (maxSteps := 4000000) -implicitDefEqProofs (disch := omega) only [push_cast, Nat.reduceAdd, Nat.reduceLeDiff, Nat.reduceMul, Nat.reduceSub, Nat.reduceLT, Nat.reduceEqDiff, Int.reduceAdd, Int.reduceSub, Int.reduceLE, Int.reduceLT, Int.reduceEq, Int.reduceNe, Int.reduceToNat, Int.reduceNeg, reduceIte, reduceCtorEq, c1, eq_false c2, eq_true c9, eq_true c12, e0]
            rw [gfork_cond]
            refine ⟨fun c13 => ?_, fun c13 => ?_⟩
            · replace hm := ifp hm c13
              have e0 := H.getP 0 rfl
              simp (maxSteps := 4000000) -implicitDefEqProofs (disch := omega) only [push_cast, Nat.reduceAdd, Nat.reduceLeDiff, Nat.reduceMul, Nat.reduceSub, Nat.reduceLT, Nat.reduceEqDiff, Int.reduceAdd, Int.reduceSub, Int.reduceLE, Int.reduceLT, Int.reduceEq, Int.reduceNe, Int.reduceToNat, Int.reduceNeg, reduceIte, reduceCtorEq, c1, eq_false c2, eq_true c9, eq_true c12, eq_true c13, e0]
              refine calls_w (fun h => styluslaw35_awake.ok hm h) (fun r11 hm => ?_)
              have e0 := H.getP 0 rfl
              simp (maxSteps := 4000000) -implicitDefEqProofs (disch := omega) only [push_cast, Nat.reduceAdd, Nat.reduceLeDiff, Nat.reduceMul, Nat.reduceSub, Nat.reduceLT, Nat.reduceEqDiff, Int.reduceAdd, Int.reduceSub, Int.reduceLE, Int.reduceLT, Int.reduceEq, Int.reduceNe, Int.reduceToNat, Int.reduceNeg, reduceIte, reduceCtorEq, c1, eq_false c2, eq_true c9, eq_true c12, eq_true c13, e0]
              exact retQ_back (.inl rfl) r11 _ rfl (Shift.refl _ _) H.sub hm
            · replace hm := ifn hm c13
              have e0 := H.getP 0 rfl
              simp (maxSteps := 4000000) -implicitDefEqProofs (disch := omega) only [push_cast, Nat.reduceAdd, Nat.reduceLeDiff, Nat.reduceMul, Nat.reduceSub, Nat.reduceLT, Nat.reduceEqDiff, Int.reduceAdd, Int.reduceSub, Int.reduceLE, Int.reduceLT, Int.reduceEq, Int.reduceNe, Int.reduceToNat, Int.reduceNeg, reduceIte, reduceCtorEq, c1, eq_false c2, eq_true c9, eq_true c12, eq_false c13, e0]
              exact retQ_back (.inl rfl) false _ rfl (Shift.refl _ _) H.sub hm
          · replace hm := ifn hm c12
            have e0 := H.getP 0 rfl
            simp (maxSteps := 4000000) -implicitDefEqProofs (disch := omega) only [push_cast, Nat.reduceAdd, Nat.reduceLeDiff, Nat.reduceMul, Nat.reduceSub, Nat.reduceLT, Nat.reduceEqDiff, Int.reduceAdd, Int.reduceSub, Int.reduceLE, Int.reduceLT, Int.reduceEq, Int.reduceNe, Int.reduceToNat, Int.reduceNeg, reduceIte, reduceCtorEq, c1, eq_false c2, eq_true c9, eq_false c12, e0]
            exact retQ_back (.inl rfl) false _ rfl (Shift.refl _ _) H.sub hm
end Go.Proofs.YtggcmnoacplbkaaDoor
