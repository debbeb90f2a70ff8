/- Functions of the program: code, what is asked for their answers, the walk (printed by pr.py). -/
import Derived.Test.YtnenodamppageaaWA5
namespace Go.Proofs.Ytnenodamppageaa
open Go Go.Proofs.Ytnenodamppageaa.AM
set_option maxRecDepth 100000
set_option linter.unusedSimpArgs false
set_option linter.unusedVariables false
set_option maxHeartbeats 4000000
/-! stylus/styluslaw33.SeekWords -/
abbrev n_styluslaw33_SeekWords : Nat := 3
noncomputable def code_styluslaw33_SeekWords : Code := match Try.f3.body with | some c => c | none => .skip
def ann_styluslaw33_SeekWords : Nat → Ann
  | 5 => { pure := [], plan := .done, ghost := true, post := false }
  | 21 => { pure := [], plan := (.op 0 (.op 1 (.op 2 (.op 3 (.op 4 (.op 5 (.op 6 (.op 7 (.op 8 .done))))))))), ghost := false, post := false }
  | _ => {}
noncomputable def ac_styluslaw33_SeekWords_c2 : AC :=
  (.seq (.seq (.reg [⟨some 54, (Op.load 3 (Operand.tmp 10)), none, false⟩, ⟨some 55, (Op.load 24 (Operand.tmp 8)), none, false⟩, ⟨some 56, (Op.call (Call.mk (Callee.builtin Builtin.len) #[(Operand.tmp 55)] #[24])), none, false⟩, ⟨some 57, (Op.binOp BinOp.neq 3 (Operand.tmp 54) (Operand.tmp 56) 3), none, false⟩, ⟨some 58, (Op.move (Operand.tmp 57)), none, false⟩, ⟨some 59, (Op.load 3 (Operand.tmp 10)), (some (some 58, true)), false⟩, ⟨some 60, (Op.load 3 (Operand.tmp 5)), (some (some 58, true)), false⟩, ⟨some 61, (Op.binOp BinOp.neq 3 (Operand.tmp 59) (Operand.tmp 60) 3), (some (some 58, true)), false⟩, ⟨some 62, (Op.pick (Operand.tmp 58) (Operand.tmp 61) (Operand.const (Value.bool false))), none, false⟩, ⟨some 63, (Op.move (Operand.tmp 62)), none, false⟩, ⟨some 64, (Op.move (Operand.tmp 7)), (some (some 63, false)), false⟩, ⟨some 65, (Op.move (Operand.tmp 1)), (some (some 63, false)), false⟩, ⟨some 66, (Op.call (Call.mk (Callee.value (Operand.func 10)) #[(Operand.tmp 64), (Operand.tmp 65)] #[22, 9])), (some (some 63, false)), false⟩, ⟨some 67, (Op.move (Operand.tmp 0)), (some (some 63, false)), false⟩, ⟨some 68, (Op.move (Operand.tmp 1)), (some (some 63, false)), false⟩, ⟨some 69, (Op.call (Call.mk (Callee.value (Operand.func 11)) #[(Operand.tmp 67), (Operand.tmp 68)] #[22, 9])), (some (some 63, false)), false⟩, ⟨some 70, (Op.call (Call.mk (Callee.value (Operand.func 9)) #[(Operand.tmp 66), (Operand.tmp 69)] #[32, 32])), (some (some 63, false)), false⟩, ⟨some 71, (Op.unOp UnOp.not 4 (Operand.tmp 70)), (some (some 63, false)), false⟩, ⟨some 72, (Op.pick (Operand.tmp 63) (Operand.const (Value.bool true)) (Operand.tmp 71)), none, false⟩, ⟨some 73, (Op.move (Operand.tmp 72)), none, false⟩, ⟨some 74, (Op.move (Operand.tmp 7)), (some (some 73, false)), false⟩, ⟨some 75, (Op.call (Call.mk (Callee.value (Operand.func 13)) #[(Operand.tmp 74)] #[22])), (some (some 73, false)), false⟩, ⟨some 76, (Op.move (Operand.tmp 0)), (some (some 73, false)), false⟩, ⟨some 77, (Op.call (Call.mk (Callee.value (Operand.func 14)) #[(Operand.tmp 76)] #[22])), (some (some 73, false)), false⟩, ⟨some 78, (Op.call (Call.mk (Callee.value (Operand.func 12)) #[(Operand.tmp 75), (Operand.tmp 77)] #[35, 35])), (some (some 73, false)), false⟩, ⟨some 79, (Op.unOp UnOp.not 4 (Operand.tmp 78)), (some (some 73, false)), false⟩, ⟨some 80, (Op.pick (Operand.tmp 73) (Operand.const (Value.bool true)) (Operand.tmp 79)), none, false⟩]) (.cond (Operand.tmp 80) (.seq (.reg [⟨none, (Op.store 4 (Operand.tmp 6) (Operand.const (Value.bool false))), none, false⟩]) .ret) .skip)) (.seq (.seq (.reg [⟨some 13, (Op.assign (Operand.const (Value.int IntKind.i64 0))), none, false⟩]) (.block 2 (.loop (.seq (.seq (.reg [⟨some 81, (Op.move (Operand.tmp 13)), none, false⟩, ⟨some 82, (Op.move (Operand.tmp 0)), none, false⟩, ⟨some 83, (Op.call (Call.mk (Callee.builtin Builtin.len) #[(Operand.tmp 82)] #[22])), none, false⟩, ⟨some 84, (Op.binOp BinOp.lss 3 (Operand.tmp 81) (Operand.tmp 83) 3), none, false⟩]) (.cond (Operand.tmp 84) .skip (.exit 2))) (.seq (.block 3 (.seq (.draw [⟨some 87, (Op.move (Operand.tmp 7)), none, false⟩, ⟨some 88, (Op.move (Operand.tmp 13)), none, false⟩, ⟨some 89, (Op.indexAddr 22 (Operand.tmp 87) (Operand.tmp 88)), none, false⟩, ⟨some 90, (Op.load 38 (Operand.tmp 89)), none, false⟩, ⟨some 91, (Op.move (Operand.tmp 0)), none, false⟩, ⟨some 92, (Op.move (Operand.tmp 13)), none, false⟩, ⟨some 93, (Op.indexAddr 22 (Operand.tmp 91) (Operand.tmp 92)), none, false⟩, ⟨some 94, (Op.load 38 (Operand.tmp 93)), none, false⟩, ⟨some 95, (Op.binOp BinOp.neq 38 (Operand.tmp 90) (Operand.tmp 94) 38), none, false⟩] (.op 0 (.op 1 (.op 2 (.op 3 (.op 4 (.op 5 (.op 6 (.op 7 (.op 8 .done)))))))))) (.cond (Operand.tmp 95) (.seq (.reg [⟨none, (Op.store 4 (Operand.tmp 6) (Operand.const (Value.bool false))), none, false⟩]) .ret) .skip))) (.reg [⟨some 85, (Op.move (Operand.tmp 13)), none, false⟩, ⟨some 86, (Op.binOp BinOp.add 3 (Operand.tmp 85) (Operand.const (Value.int IntKind.i64 1)) 3), none, false⟩, ⟨some 13, (Op.assign (Operand.tmp 86)), none, false⟩])))))) (.seq (.reg [⟨some 96, (Op.call (Call.mk (Callee.value (Operand.func 6)) #[] #[])), none, false⟩, ⟨none, (Op.store 4 (Operand.tmp 6) (Operand.tmp 96)), none, false⟩]) .ret)))
noncomputable def ac_styluslaw33_SeekWords_c1 : AC :=
  (.seq (.seq (.reg [⟨some 32, (Op.move (Operand.tmp 9)), none, false⟩]) (.block 0 (.range (Operand.tmp 32) [33, 34] (.seq (.reg [⟨some 11, (Op.assign (Operand.tmp 33)), none, false⟩]) (.reg [⟨some 12, (Op.assign (Operand.tmp 34)), none, false⟩])) (.block 1 (.seq (.seq (.reg [⟨some 35, (Op.load 3 (Operand.tmp 10)), none, false⟩, ⟨some 36, (Op.load 24 (Operand.tmp 8)), none, false⟩, ⟨some 37, (Op.call (Call.mk (Callee.builtin Builtin.len) #[(Operand.tmp 36)] #[24])), none, false⟩, ⟨some 38, (Op.binOp BinOp.geq 3 (Operand.tmp 35) (Operand.tmp 37) 3), none, false⟩, ⟨some 39, (Op.move (Operand.tmp 38)), none, false⟩, ⟨some 40, (Op.load 24 (Operand.tmp 8)), (some (some 39, false)), false⟩, ⟨some 41, (Op.load 3 (Operand.tmp 10)), (some (some 39, false)), false⟩, ⟨some 42, (Op.indexAddr 24 (Operand.tmp 40) (Operand.tmp 41)), (some (some 39, false)), false⟩, ⟨some 43, (Op.load 30 (Operand.tmp 42)), (some (some 39, false)), false⟩, ⟨some 44, (Op.move (Operand.tmp 11)), (some (some 39, false)), false⟩, ⟨some 45, (Op.move (Operand.tmp 12)), (some (some 39, false)), false⟩, ⟨some 46, (Op.build 30 #[(0, (Operand.tmp 44)), (1, (Operand.tmp 45))]), (some (some 39, false)), false⟩, ⟨some 47, (Op.binOp BinOp.neq 30 (Operand.tmp 43) (Operand.tmp 46) 30), (some (some 39, false)), false⟩, ⟨some 48, (Op.pick (Operand.tmp 39) (Operand.const (Value.bool true)) (Operand.tmp 47)), none, false⟩]) (.cond (Operand.tmp 48) (.seq (.reg [⟨none, (Op.store 4 (Operand.tmp 6) (Operand.const (Value.bool false))), none, false⟩]) .ret) .skip)) (.seq (.reg [⟨some 49, (Op.load 3 (Operand.tmp 10)), none, false⟩, ⟨some 50, (Op.binOp BinOp.add 3 (Operand.tmp 49) (Operand.const (Value.int IntKind.i64 1)) 3), none, false⟩, ⟨none, (Op.store 3 (Operand.tmp 10) (Operand.tmp 50)), none, false⟩]) (.seq (.reg [⟨some 51, (Op.load 3 (Operand.tmp 10)), none, false⟩, ⟨some 52, (Op.load 3 (Operand.tmp 5)), none, false⟩, ⟨some 53, (Op.binOp BinOp.eql 3 (Operand.tmp 51) (Operand.tmp 52) 3), none, false⟩]) (.cond (Operand.tmp 53) (.exit 0) .skip)))))))) ac_styluslaw33_SeekWords_c2)
noncomputable def ac_styluslaw33_SeekWords : AC :=
  (.seq (.reg [⟨some 5, (Op.box 3 (Operand.tmp 2)), none, false⟩, ⟨some 6, (Op.alloc 4), none, false⟩]) (.seq (.seq (.reg [⟨some 14, (Op.move (Operand.tmp 0)), none, false⟩, ⟨some 15, (Op.call (Call.mk (Callee.builtin Builtin.len) #[(Operand.tmp 14)] #[22])), none, false⟩, ⟨some 16, (Op.binOp BinOp.gtr 3 (Operand.tmp 15) (Operand.const (Value.int IntKind.i64 300)) 3), none, false⟩, ⟨some 17, (Op.move (Operand.tmp 16)), none, false⟩, ⟨some 18, (Op.move (Operand.tmp 1)), (some (some 17, false)), false⟩, ⟨some 19, (Op.call (Call.mk (Callee.builtin Builtin.len) #[(Operand.tmp 18)] #[9])), (some (some 17, false)), false⟩, ⟨some 20, (Op.binOp BinOp.gtr 3 (Operand.tmp 19) (Operand.const (Value.int IntKind.i64 60)) 3), (some (some 17, false)), false⟩, ⟨some 21, (Op.pick (Operand.tmp 17) (Operand.const (Value.bool true)) (Operand.tmp 20)), none, false⟩]) (.cond (Operand.tmp 21) (.seq (.reg [⟨some 22, (Op.call (Call.mk (Callee.value (Operand.func 6)) #[] #[])), none, false⟩, ⟨none, (Op.store 4 (Operand.tmp 6) (Operand.tmp 22)), none, false⟩]) .ret) .skip)) (.seq (.reg [⟨some 23, (Op.buildSlice 22 0 #[]), none, false⟩, ⟨some 24, (Op.move (Operand.tmp 0)), none, false⟩, ⟨some 25, (Op.call (Call.mk (Callee.builtin Builtin.append) #[(Operand.tmp 23), (Operand.tmp 24)] #[22, 22])), none, false⟩, ⟨some 7, (Op.assign (Operand.tmp 25)), none, false⟩]) (.seq (.reg [⟨some 26, (Op.move (Operand.tmp 0)), none, false⟩, ⟨some 27, (Op.call (Call.mk (Callee.value (Operand.func 7)) #[(Operand.tmp 26)] #[22])), none, false⟩, ⟨some 8, (Op.alloc 24), none, false⟩, ⟨none, (Op.store 24 (Operand.tmp 8) (Operand.tmp 27)), none, false⟩]) (.seq (.seq .ghost (.reg [⟨some 28, (Op.move (Operand.tmp 7)), none, false⟩, ⟨some 29, (Op.call (Call.mk (Callee.value (Operand.func 8)) #[(Operand.tmp 28)] #[22])), none, false⟩, ⟨some 9, (Op.assign (Operand.tmp 29)), none, false⟩])) (.seq (.seq (.reg [⟨some 30, (Op.move (Operand.tmp 9)), none, false⟩, ⟨some 31, (Op.binOp BinOp.eql 27 (Operand.tmp 30) (Operand.const Value.nilFunc) 27), none, false⟩]) (.cond (Operand.tmp 31) (.seq (.reg [⟨none, (Op.store 4 (Operand.tmp 6) (Operand.const (Value.bool false))), none, false⟩]) .ret) .skip)) (.seq (.reg [⟨some 10, (Op.alloc 3), none, false⟩, ⟨none, (Op.store 3 (Operand.tmp 10) (Operand.const (Value.int IntKind.i64 0))), none, false⟩]) ac_styluslaw33_SeekWords_c1)))))))
theorem body_styluslaw33_SeekWords : Try.f3.body = some code_styluslaw33_SeekWords := by kernel_rfl
theorem slim_styluslaw33_SeekWords : slim ann_styluslaw33_SeekWords code_styluslaw33_SeekWords = some ac_styluslaw33_SeekWords := by kernel_rfl
theorem name_styluslaw33_SeekWords : (Try.f3.name == "runtime.NumGoroutine") = false := by kernel_rfl
theorem enter_styluslaw33_SeekWords {args : List AV} {h : Hp} {Q : AE → Hp → Prop} (H : awp Try.prog tab ac_styluslaw33_SeekWords (retQ tab [(ResultVar.cell 6 4)] Q) ⟨args ++ List.replicate (97 - args.length) .any, h⟩) : ACalls Try.prog 3 args h Q :=
  acalls_of tab_ok mixed Try.func3 body_styluslaw33_SeekWords name_styluslaw33_SeekWords slim_styluslaw33_SeekWords rfl Try.ntmps3 H
/-- stylus/styluslaw33.SeekWords -/
def styluslaw33_SeekWords.w (a0_ : List ApiTok) (a1_ : ByteArray) (a2_ : Int) (Q : Bool → Prop) : Prop :=
  if 300 < (a0_.length : Int) then
    styluslaw33_awake.w  (fun r1 =>
      Q r1)
  else
    if 60 < (a1_.size : Int) then
      styluslaw33_awake.w  (fun r2 =>
        Q r2)
    else
      ((([] : List ApiTok).length + a0_.length) * 24 ≤ 140737488355328) ∧
      stylusref33_Words.w a0_ (fun r3 =>
        seek_Words.w a0_ (fun r4 =>
          wcut (α := Int) (fun k1 =>
            seek_Words_1_i0.w (σ := Int × Nat) (fun ⟨v1, v2⟩ ⟨a2, n1⟩ k2 => n1 = 0 ∧
              if (r3.length : Int) ≤ a2 then
                k2 false (a2, 1)
              else
                (0 ≤ a2) ∧
                ∃ v3 : Stylusref33Word, r3[a2.toNat]? = some v3 ∧
                if (!(decide (v3.At = v1) && decide (v3.Text.toList = v2.toList))) = true then
                  k2 false (a2, 1)
                else
                  (I64 (a2 + 1)) ∧
                  if a2 + 1 = a2_ then
                    k2 false (a2 + 1, 2)
                  else
                    k2 true (a2 + 1, 0)) r4 (0, 0) (fun ⟨a2, n2⟩ =>
              if n2 = 1 then
                Q false
              else
              if n2 = 2 then
                k1 a2
              else
              k1 a2)) (fun a1 =>
            wcut (α := Unit) (fun k3 =>
              if a1 = (r3.length : Int) then
                seek_At.w a0_ a1_ (fun r11 =>
                  stylusref33_At.w a0_ a1_ (fun r12 =>
                    styluslaw33_row.w r11 r12 (fun r13 =>
                      if (!r13) = true then
                        Q false
                      else
                        seek_Index.w a0_ (fun r14 =>
                          stylusref33_Index.w a0_ (fun r15 =>
                            styluslaw33_texts.w r14 r15 (fun r16 =>
                              if (!r16) = true then
                                Q false
                              else
                                k3 ()))))))
              else
                if a1 = a2_ then
                  seek_At.w a0_ a1_ (fun r5 =>
                    stylusref33_At.w a0_ a1_ (fun r6 =>
                      styluslaw33_row.w r5 r6 (fun r7 =>
                        if (!r7) = true then
                          Q false
                        else
                          seek_Index.w a0_ (fun r8 =>
                            stylusref33_Index.w a0_ (fun r9 =>
                              styluslaw33_texts.w r8 r9 (fun r10 =>
                                if (!r10) = true then
                                  Q false
                                else
                                  k3 ()))))))
                else
                  Q false) (fun _ =>
              wloop (σ := Int) (fun a3 next1 =>
                if a3 < (a0_.length : Int) then
                  (0 ≤ a3) ∧
                  ∃ v4 : ApiTok, a0_[a3.toNat]? = some v4 ∧
                  (I64 (a3 + 1)) ∧
                  next1 (a3 + 1)
                else
                  styluslaw33_awake.w  (fun r17 =>
                    Q r17)) 0))))
theorem styluslaw33_SeekWords.ok {a0_ : List ApiTok} {a1_ : ByteArray} {a2_ : Int} {Q : Bool → Prop} (hm : styluslaw33_SeekWords.w a0_ a1_ a2_ Q) (h0 : Hp) : ACalls Try.prog n_styluslaw33_SeekWords [(.isl 3 (a0_.map ApiTok.enc)), (astr a1_), (aint a2_)] h0 (Back h0 (fun r => (abool r)) Q) := by
  refine enter_styluslaw33_SeekWords ?_
  unfold styluslaw33_SeekWords.w at hm
  have H := AM.Own.nil h0
  simp (maxSteps := 4000000) -implicitDefEqProofs (disch := omega) only [push_cast, Nat.reduceAdd, Nat.reduceLeDiff, Nat.reduceMul, Nat.reduceSub, Nat.reduceLT, Nat.reduceEqDiff, Int.reduceAdd, Int.reduceSub, Int.reduceLE, Int.reduceLT, Int.reduceEq, Int.reduceNe, Int.reduceToNat, Int.reduceNeg, reduceIte, reduceCtorEq, ac_styluslaw33_SeekWords]
  refine H.newR [(aint a2_)] rfl (fun b1 h1 H => ?_)
  have e0 := H.getP 0 rfl
  simp (maxSteps := 4000000) -implicitDefEqProofs (disch := omega) only [push_cast, Nat.reduceAdd, Nat.reduceLeDiff, Nat.reduceMul, Nat.reduceSub, Nat.reduceLT, Nat.reduceEqDiff, Int.reduceAdd, Int.reduceSub, Int.reduceLE, Int.reduceLT, Int.reduceEq, Int.reduceNe, Int.reduceToNat, Int.reduceNeg, reduceIte, reduceCtorEq, e0]
  refine H.newR [(abool false)] rfl (fun b2 h2 H => ?_)
  have e0 := H.getP 0 rfl
  have e1 := H.getP 1 rfl
  simp (maxSteps := 4000000) -implicitDefEqProofs (disch := omega) only [push_cast, Nat.reduceAdd, Nat.reduceLeDiff, Nat.reduceMul, Nat.reduceSub, Nat.reduceLT, Nat.reduceEqDiff, Int.reduceAdd, Int.reduceSub, Int.reduceLE, Int.reduceLT, Int.reduceEq, Int.reduceNe, Int.reduceToNat, Int.reduceNeg, reduceIte, reduceCtorEq, e0, e1]
  rw [gfork_cond']
  refine ⟨fun c1 => ?_, fun c1 => ?_⟩
  · replace hm := ifp hm c1
    have e0 := H.getP 0 rfl
    have e1 := H.getP 1 rfl
    simp (maxSteps := 4000000) -implicitDefEqProofs (disch := omega) only [push_cast, Nat.reduceAdd, Nat.reduceLeDiff, Nat.reduceMul, Nat.reduceSub, Nat.reduceLT, Nat.reduceEqDiff, Int.reduceAdd, Int.reduceSub, Int.reduceLE, Int.reduceLT, Int.reduceEq, Int.reduceNe, Int.reduceToNat, Int.reduceNeg, reduceIte, reduceCtorEq, eq_true c1, e0, e1]
    refine calls_w (fun h => styluslaw33_awake.ok hm h) (fun r1 hm => ?_)
    have e0 := H.getP 0 rfl
    have e1 := H.getP 1 rfl
    simp (maxSteps := 4000000) -implicitDefEqProofs (disch := omega) only [push_cast, Nat.reduceAdd, Nat.reduceLeDiff, Nat.reduceMul, Nat.reduceSub, Nat.reduceLT, Nat.reduceEqDiff, Int.reduceAdd, Int.reduceSub, Int.reduceLE, Int.reduceLT, Int.reduceEq, Int.reduceNe, Int.reduceToNat, Int.reduceNeg, reduceIte, reduceCtorEq, eq_true c1, e0, e1]
    refine H.stP 1 [(abool r1)] rfl rfl rfl rfl (Nat.le_of_ble_eq_true rfl) rfl (fun h3 H => ?_)
    have e0 := H.getP 0 rfl
    have e1 := H.getP 1 rfl
    simp (maxSteps := 4000000) -implicitDefEqProofs (disch := omega) only [push_cast, Nat.reduceAdd, Nat.reduceLeDiff, Nat.reduceMul, Nat.reduceSub, Nat.reduceLT, Nat.reduceEqDiff, Int.reduceAdd, Int.reduceSub, Int.reduceLE, Int.reduceLT, Int.reduceEq, Int.reduceNe, Int.reduceToNat, Int.reduceNeg, reduceIte, reduceCtorEq, eq_true c1, e0, e1]
    have e0 := H.getP 0 rfl
    have e1 := H.getP 1 rfl
    exact retQ_back (.inl rfl) r1 (abool r1) (by simp [aResults, resAll, resOne, push_cast, e0, e1]) (Shift.refl _ _) H.sub hm
  · replace hm := ifn hm c1
    have e0 := H.getP 0 rfl
    have e1 := H.getP 1 rfl
    simp (maxSteps := 4000000) -implicitDefEqProofs (disch := omega) only [push_cast, Nat.reduceAdd, Nat.reduceLeDiff, Nat.reduceMul, Nat.reduceSub, Nat.reduceLT, Nat.reduceEqDiff, Int.reduceAdd, Int.reduceSub, Int.reduceLE, Int.reduceLT, Int.reduceEq, Int.reduceNe, Int.reduceToNat, Int.reduceNeg, reduceIte, reduceCtorEq, eq_false c1, e0, e1]
    rw [fork_cond]
    refine ⟨fun c2 => ?_, fun c2 => ?_⟩
    · replace hm := ifp hm c2
      have e0 := H.getP 0 rfl
      have e1 := H.getP 1 rfl
      simp (maxSteps := 4000000) -implicitDefEqProofs (disch := omega) only [push_cast, Nat.reduceAdd, Nat.reduceLeDiff, Nat.reduceMul, Nat.reduceSub, Nat.reduceLT, Nat.reduceEqDiff, Int.reduceAdd, Int.reduceSub, Int.reduceLE, Int.reduceLT, Int.reduceEq, Int.reduceNe, Int.reduceToNat, Int.reduceNeg, reduceIte, reduceCtorEq, eq_false c1, eq_true c2, e0, e1]
      refine calls_w (fun h => styluslaw33_awake.ok hm h) (fun r2 hm => ?_)
      have e0 := H.getP 0 rfl
      have e1 := H.getP 1 rfl
      simp (maxSteps := 4000000) -implicitDefEqProofs (disch := omega) only [push_cast, Nat.reduceAdd, Nat.reduceLeDiff, Nat.reduceMul, Nat.reduceSub, Nat.reduceLT, Nat.reduceEqDiff, Int.reduceAdd, Int.reduceSub, Int.reduceLE, Int.reduceLT, Int.reduceEq, Int.reduceNe, Int.reduceToNat, Int.reduceNeg, reduceIte, reduceCtorEq, eq_false c1, eq_true c2, e0, e1]
      refine H.stP 1 [(abool r2)] rfl rfl rfl rfl (Nat.le_of_ble_eq_true rfl) rfl (fun h4 H => ?_)
      have e0 := H.getP 0 rfl
      have e1 := H.getP 1 rfl
      simp (maxSteps := 4000000) -implicitDefEqProofs (disch := omega) only [push_cast, Nat.reduceAdd, Nat.reduceLeDiff, Nat.reduceMul, Nat.reduceSub, Nat.reduceLT, Nat.reduceEqDiff, Int.reduceAdd, Int.reduceSub, Int.reduceLE, Int.reduceLT, Int.reduceEq, Int.reduceNe, Int.reduceToNat, Int.reduceNeg, reduceIte, reduceCtorEq, eq_false c1, eq_true c2, e0, e1]
      have e0 := H.getP 0 rfl
      have e1 := H.getP 1 rfl
      exact retQ_back (.inl rfl) r2 (abool r2) (by simp [aResults, resAll, resOne, push_cast, e0, e1]) (Shift.refl _ _) H.sub hm
    · replace hm := ifn hm c2
      have e0 := H.getP 0 rfl
      have e1 := H.getP 1 rfl
      simp (maxSteps := 4000000) -implicitDefEqProofs (disch := omega) only [push_cast, Nat.reduceAdd, Nat.reduceLeDiff, Nat.reduceMul, Nat.reduceSub, Nat.reduceLT, Nat.reduceEqDiff, Int.reduceAdd, Int.reduceSub, Int.reduceLE, Int.reduceLT, Int.reduceEq, Int.reduceNe, Int.reduceToNat, Int.reduceNeg, reduceIte, reduceCtorEq, eq_false c1, eq_false c2, e0, e1]
      refine H.newL (E := ApiTok.enc) ([] : List ApiTok) rfl rfl (fun b3 h5 H => ?_)
      have e0 := H.getP 0 rfl
      have e1 := H.getP 1 rfl
      simp (maxSteps := 4000000) -implicitDefEqProofs (disch := omega) only [push_cast, Nat.reduceAdd, Nat.reduceLeDiff, Nat.reduceMul, Nat.reduceSub, Nat.reduceLT, Nat.reduceEqDiff, Int.reduceAdd, Int.reduceSub, Int.reduceLE, Int.reduceLT, Int.reduceEq, Int.reduceNe, Int.reduceToNat, Int.reduceNeg, reduceIte, reduceCtorEq, eq_false c1, eq_false c2, e0, e1]
      obtain ⟨w1, hm⟩ := hm
      refine H.appL (E := ApiTok.enc) 2 a0_ rfl rfl rfl (by decide) (by decide) w1 (fun x1 h6 H => ?_)
      replace H : AM.Own h0 h6 [⟨(.optr b1 1 0 0), true, 1, [[(aint a2_)]], some (3, 1)⟩, ⟨(.optr b2 1 0 0), true, 1, [[(abool false)]], some (4, 1)⟩, ⟨x1, false, 3, a0_.map ApiTok.enc, some (38, 0)⟩] := H
      have e0 := H.getP 0 rfl
      have e1 := H.getP 1 rfl
      simp (maxSteps := 4000000) -implicitDefEqProofs (disch := omega) only [push_cast, Nat.reduceAdd, Nat.reduceLeDiff, Nat.reduceMul, Nat.reduceSub, Nat.reduceLT, Nat.reduceEqDiff, Int.reduceAdd, Int.reduceSub, Int.reduceLE, Int.reduceLT, Int.reduceEq, Int.reduceNe, Int.reduceToNat, Int.reduceNeg, reduceIte, reduceCtorEq, eq_false c1, eq_false c2, e0, e1]
      refine calls_w (fun h => stylusref33_Words.ok hm h) (fun r3 hm => ?_)
      have e0 := H.getP 0 rfl
      have e1 := H.getP 1 rfl
      simp (maxSteps := 4000000) -implicitDefEqProofs (disch := omega) only [push_cast, Nat.reduceAdd, Nat.reduceLeDiff, Nat.reduceMul, Nat.reduceSub, Nat.reduceLT, Nat.reduceEqDiff, Int.reduceAdd, Int.reduceSub, Int.reduceLE, Int.reduceLT, Int.reduceEq, Int.reduceNe, Int.reduceToNat, Int.reduceNeg, reduceIte, reduceCtorEq, eq_false c1, eq_false c2, e0, e1]
      refine H.newR [anil] rfl (fun b4 h7 H => ?_)
      have e0 := H.getP 0 rfl
      have e1 := H.getP 1 rfl
      have e3 := H.getP 3 rfl
      simp (maxSteps := 4000000) -implicitDefEqProofs (disch := omega) only [push_cast, Nat.reduceAdd, Nat.reduceLeDiff, Nat.reduceMul, Nat.reduceSub, Nat.reduceLT, Nat.reduceEqDiff, Int.reduceAdd, Int.reduceSub, Int.reduceLE, Int.reduceLT, Int.reduceEq, Int.reduceNe, Int.reduceToNat, Int.reduceNeg, reduceIte, reduceCtorEq, eq_false c1, eq_false c2, e0, e1, e3]
      refine H.stP 3 [(.isl 2 (r3.map Stylusref33Word.enc))] rfl rfl rfl rfl (Nat.le_of_ble_eq_true rfl) rfl (fun h8 H => ?_)
      have e0 := H.getP 0 rfl
      have e1 := H.getP 1 rfl
      have e3 := H.getP 3 rfl
      simp (maxSteps := 4000000) -implicitDefEqProofs (disch := omega) only [push_cast, Nat.reduceAdd, Nat.reduceLeDiff, Nat.reduceMul, Nat.reduceSub, Nat.reduceLT, Nat.reduceEqDiff, Int.reduceAdd, Int.reduceSub, Int.reduceLE, Int.reduceLT, Int.reduceEq, Int.reduceNe, Int.reduceToNat, Int.reduceNeg, reduceIte, reduceCtorEq, eq_false c1, eq_false c2, e0, e1, e3]
      obtain ⟨h9, s1, H⟩ := H.freeze 2 rfl
      replace H : AM.Own h0 h9 [⟨(.optr b1 1 0 0), true, 1, [[(aint a2_)]], some (3, 1)⟩, ⟨(.optr b2 1 0 0), true, 1, [[(abool false)]], some (4, 1)⟩, dead, ⟨(.optr b4 1 0 0), true, 1, [[(.isl 2 (r3.map Stylusref33Word.enc))]], some (24, 1)⟩] := H
      refine awp_ghost' _ (Retell.slot (k := 7) rfl s1) ?_
      have e0 := H.getP 0 rfl
      have e1 := H.getP 1 rfl
      have e3 := H.getP 3 rfl
      simp (maxSteps := 4000000) -implicitDefEqProofs (disch := omega) only [push_cast, Nat.reduceAdd, Nat.reduceLeDiff, Nat.reduceMul, Nat.reduceSub, Nat.reduceLT, Nat.reduceEqDiff, Int.reduceAdd, Int.reduceSub, Int.reduceLE, Int.reduceLT, Int.reduceEq, Int.reduceNe, Int.reduceToNat, Int.reduceNeg, reduceIte, reduceCtorEq, eq_false c1, eq_false c2, e0, e1, e3]
      refine calls_w (fun h => seek_Words.ok hm h) (fun r4 hm => ?_)
      have e0 := H.getP 0 rfl
      have e1 := H.getP 1 rfl
      have e3 := H.getP 3 rfl
      simp (maxSteps := 4000000) -implicitDefEqProofs (disch := omega) only [push_cast, Nat.reduceAdd, Nat.reduceLeDiff, Nat.reduceMul, Nat.reduceSub, Nat.reduceLT, Nat.reduceEqDiff, Int.reduceAdd, Int.reduceSub, Int.reduceLE, Int.reduceLT, Int.reduceEq, Int.reduceNe, Int.reduceToNat, Int.reduceNeg, reduceIte, reduceCtorEq, eq_false c1, eq_false c2, e0, e1, e3]
      refine H.newR [(aint 0)] rfl (fun b5 h10 H => ?_)
      have e0 := H.getP 0 rfl
      have e1 := H.getP 1 rfl
      have e3 := H.getP 3 rfl
      have e4 := H.getP 4 rfl
      simp (maxSteps := 4000000) -implicitDefEqProofs (disch := omega) only [push_cast, Nat.reduceAdd, Nat.reduceLeDiff, Nat.reduceMul, Nat.reduceSub, Nat.reduceLT, Nat.reduceEqDiff, Int.reduceAdd, Int.reduceSub, Int.reduceLE, Int.reduceLT, Int.reduceEq, Int.reduceNe, Int.reduceToNat, Int.reduceNeg, reduceIte, reduceCtorEq, eq_false c1, eq_false c2, e0, e1, e3, e4]
      refine H.stP 4 [(aint 0)] rfl rfl rfl rfl (Nat.le_of_ble_eq_true rfl) rfl (fun h11 H => ?_)
      have e0 := H.getP 0 rfl
      have e1 := H.getP 1 rfl
      have e3 := H.getP 3 rfl
      have e4 := H.getP 4 rfl
      simp (maxSteps := 4000000) -implicitDefEqProofs (disch := omega) only [push_cast, Nat.reduceAdd, Nat.reduceLeDiff, Nat.reduceMul, Nat.reduceSub, Nat.reduceLT, Nat.reduceEqDiff, Int.reduceAdd, Int.reduceSub, Int.reduceLE, Int.reduceLT, Int.reduceEq, Int.reduceNe, Int.reduceToNat, Int.reduceNeg, reduceIte, reduceCtorEq, eq_false c1, eq_false c2, e0, e1, e3, e4]
      obtain ⟨k1, hm, hk1⟩ := wcut_elim hm
      refine awp_cut (fun s' => ∃ (a1 : Int) (h12 : Hp), Like s'.tm ((((((((List.replicate 97 none).set 0 (some (.isl 3 (a0_.map ApiTok.enc)))).set 1 (some (astr a1_))).set 5 (some (.optr b1 1 0 0))).set 6 (some (.optr b2 1 0 0))).set 7 (some (.isl 3 (a0_.map ApiTok.enc)))).set 8 (some (.optr b4 1 0 0))).set 10 (some (.optr b5 1 0 0))) ∧ s'.h = h12 ∧ AM.Own h0 h12 [⟨(.optr b1 1 0 0), true, 1, [[(aint a2_)]], some (3, 1)⟩, ⟨(.optr b2 1 0 0), true, 1, [[(abool false)]], some (4, 1)⟩, ⟨(.optr b4 1 0 0), true, 1, [[(.isl 2 (r3.map Stylusref33Word.enc))]], some (24, 1)⟩, ⟨(.optr b5 1 0 0), true, 1, [[(aint a1)]], some (3, 1)⟩] ∧ k1 a1) ?_ ?_
      · have e0 := H.getP 0 rfl
        have e1 := H.getP 1 rfl
        have e3 := H.getP 3 rfl
        have e4 := H.getP 4 rfl
        simp (maxSteps := 4000000) -implicitDefEqProofs (disch := omega) only [push_cast, Nat.reduceAdd, Nat.reduceLeDiff, Nat.reduceMul, Nat.reduceSub, Nat.reduceLT, Nat.reduceEqDiff, Int.reduceAdd, Int.reduceSub, Int.reduceLE, Int.reduceLT, Int.reduceEq, Int.reduceNe, Int.reduceToNat, Int.reduceNeg, reduceIte, reduceCtorEq, eq_false c1, eq_false c2, e0, e1, e3, e4]
        replace H := H.perm [0, 1, 3, 4] (by decide)
        refine awp_range (σ := Int) (α := Int × ByteArray) (enc := (fun x => [(aint x.1), (astr x.2)])) (n := 21) rfl [.ret, .exit 0] (fun (s : Int) its rs => match s with | a2 => its = [⟨(.optr b1 1 0 0), true, 1, [[(aint a2_)]], some (3, 1)⟩, ⟨(.optr b2 1 0 0), true, 1, [[(abool false)]], some (4, 1)⟩, ⟨(.optr b4 1 0 0), true, 1, [[(.isl 2 (r3.map Stylusref33Word.enc))]], some (24, 1)⟩, ⟨(.optr b5 1 0 0), true, 1, [[(aint a2)]], some (3, 1)⟩] ∧ rs = []) (fun hY hR hS => seek_Words_1_i0.ok hm hY hR hS) _ [] ⟨rfl, rfl⟩ H.r (fun _ => rfl) (by rintro ⟨v1, v2⟩ a2 k K hk hy; exact hk hy.1) ?_ ?_
        · rintro ⟨v1, v2⟩ a2 _ _ k2 hb1 h13 hy hI HO
          dsimp only at hy hI
          obtain ⟨_, hm⟩ := hy
          obtain ⟨rfl, rfl⟩ := hI
          replace H := HO.own
          have e0 := H.getP 0 rfl
          have e1 := H.getP 1 rfl
          have e2 := H.getP 2 rfl
          have e3 := H.getP 3 rfl
          simp (maxSteps := 4000000) -implicitDefEqProofs (disch := omega) only [push_cast, Nat.reduceAdd, Nat.reduceLeDiff, Nat.reduceMul, Nat.reduceSub, Nat.reduceLT, Nat.reduceEqDiff, Int.reduceAdd, Int.reduceSub, Int.reduceLE, Int.reduceLT, Int.reduceEq, Int.reduceNe, Int.reduceToNat, Int.reduceNeg, reduceIte, reduceCtorEq, eq_false c1, eq_false c2, setAll, List.zip_cons_cons, List.zip_nil_left, List.foldl_cons, List.foldl_nil, e0, e1, e2, e3]
          refine ⟨_, H.r, fun hb2 h14 HO => ?_⟩
          replace H := HO.own
          have e0 := H.getP 0 rfl
          have e1 := H.getP 1 rfl
          have e2 := H.getP 2 rfl
          have e3 := H.getP 3 rfl
          try simp (maxSteps := 4000000) -implicitDefEqProofs (disch := omega) only [push_cast, Nat.reduceAdd, Nat.reduceLeDiff, Nat.reduceMul, Nat.reduceSub, Nat.reduceLT, Nat.reduceEqDiff, Int.reduceAdd, Int.reduceSub, Int.reduceLE, Int.reduceLT, Int.reduceEq, Int.reduceNe, Int.reduceToNat, Int.reduceNeg, reduceIte, reduceCtorEq, eq_false c1, eq_false c2, setAll, List.zip_cons_cons, List.zip_nil_left, List.foldl_cons, List.foldl_nil, e0, e1, e2, e3]
          rw [gfork_cond']
          refine ⟨fun c3 => ?_, fun c3 => ?_⟩
          · replace hm := ifp hm c3
            have e0 := H.getP 0 rfl
            have e1 := H.getP 1 rfl
            have e2 := H.getP 2 rfl
            have e3 := H.getP 3 rfl
            simp (maxSteps := 4000000) -implicitDefEqProofs (disch := omega) only [push_cast, Nat.reduceAdd, Nat.reduceLeDiff, Nat.reduceMul, Nat.reduceSub, Nat.reduceLT, Nat.reduceEqDiff, Int.reduceAdd, Int.reduceSub, Int.reduceLE, Int.reduceLT, Int.reduceEq, Int.reduceNe, Int.reduceToNat, Int.reduceNeg, reduceIte, reduceCtorEq, eq_false c1, eq_false c2, setAll, List.zip_cons_cons, List.zip_nil_left, List.foldl_cons, List.foldl_nil, eq_true c3, e0, e1, e2, e3]
            refine H.stP 1 [(abool false)] rfl rfl rfl rfl (Nat.le_of_ble_eq_true rfl) rfl (fun h15 H => ?_)
            have e0 := H.getP 0 rfl
            have e1 := H.getP 1 rfl
            have e2 := H.getP 2 rfl
            have e3 := H.getP 3 rfl
            simp (maxSteps := 4000000) -implicitDefEqProofs (disch := omega) only [push_cast, Nat.reduceAdd, Nat.reduceLeDiff, Nat.reduceMul, Nat.reduceSub, Nat.reduceLT, Nat.reduceEqDiff, Int.reduceAdd, Int.reduceSub, Int.reduceLE, Int.reduceLT, Int.reduceEq, Int.reduceNe, Int.reduceToNat, Int.reduceNeg, reduceIte, reduceCtorEq, eq_false c1, eq_false c2, setAll, List.zip_cons_cons, List.zip_nil_left, List.foldl_cons, List.foldl_nil, eq_true c3, e0, e1, e2, e3]
            replace H := H.perm [0, 1, 2, 3] (by decide)
            exact rngQ_of 1 a2 ⟨rfl, rfl⟩ H.r hm rfl
          · replace hm := ifn hm c3
            obtain ⟨z1, hm⟩ := hm
            obtain ⟨v3, i1, hm⟩ := hm
            have e0 := H.getP 0 rfl
            have e1 := H.getP 1 rfl
            have e2 := H.getP 2 rfl
            have e3 := H.getP 3 rfl
            simp (maxSteps := 4000000) -implicitDefEqProofs (disch := omega) only [push_cast, Nat.reduceAdd, Nat.reduceLeDiff, Nat.reduceMul, Nat.reduceSub, Nat.reduceLT, Nat.reduceEqDiff, Int.reduceAdd, Int.reduceSub, Int.reduceLE, Int.reduceLT, Int.reduceEq, Int.reduceNe, Int.reduceToNat, Int.reduceNeg, reduceIte, reduceCtorEq, eq_false c1, eq_false c2, setAll, List.zip_cons_cons, List.zip_nil_left, List.foldl_cons, List.foldl_nil, eq_false c3, eq_true z1, i1, e0, e1, e2, e3]
            rw [fork_bool]
            refine ⟨fun c4 => ?_, fun c4 => ?_⟩
            · replace hm := ifp hm c4
              have e0 := H.getP 0 rfl
              have e1 := H.getP 1 rfl
              have e2 := H.getP 2 rfl
              have e3 := H.getP 3 rfl
              simp (maxSteps := 4000000) -implicitDefEqProofs (disch := omega) only [push_cast, Nat.reduceAdd, Nat.reduceLeDiff, Nat.reduceMul, Nat.reduceSub, Nat.reduceLT, Nat.reduceEqDiff, Int.reduceAdd, Int.reduceSub, Int.reduceLE, Int.reduceLT, Int.reduceEq, Int.reduceNe, Int.reduceToNat, Int.reduceNeg, reduceIte, reduceCtorEq, eq_false c1, eq_false c2, setAll, List.zip_cons_cons, List.zip_nil_left, List.foldl_cons, List.foldl_nil, eq_false c3, eq_true z1, i1, c4, e0, e1, e2, e3]
              refine H.stP 1 [(abool false)] rfl rfl rfl rfl (Nat.le_of_ble_eq_true rfl) rfl (fun h16 H => ?_)
              have e0 := H.getP 0 rfl
              have e1 := H.getP 1 rfl
              have e2 := H.getP 2 rfl
              have e3 := H.getP 3 rfl
              simp (maxSteps := 4000000) -implicitDefEqProofs (disch := omega) only [push_cast, Nat.reduceAdd, Nat.reduceLeDiff, Nat.reduceMul, Nat.reduceSub, Nat.reduceLT, Nat.reduceEqDiff, Int.reduceAdd, Int.reduceSub, Int.reduceLE, Int.reduceLT, Int.reduceEq, Int.reduceNe, Int.reduceToNat, Int.reduceNeg, reduceIte, reduceCtorEq, eq_false c1, eq_false c2, setAll, List.zip_cons_cons, List.zip_nil_left, List.foldl_cons, List.foldl_nil, eq_false c3, eq_true z1, i1, c4, e0, e1, e2, e3]
              replace H := H.perm [0, 1, 2, 3] (by decide)
              exact rngQ_of 1 a2 ⟨rfl, rfl⟩ H.r hm rfl
            · replace hm := ifn hm (by rw [c4]; exact Bool.false_ne_true)
              obtain ⟨w2, hm⟩ := hm
              have e0 := H.getP 0 rfl
              have e1 := H.getP 1 rfl
              have e2 := H.getP 2 rfl
              have e3 := H.getP 3 rfl
              simp (maxSteps := 4000000) -implicitDefEqProofs (disch := omega) only [push_cast, Nat.reduceAdd, Nat.reduceLeDiff, Nat.reduceMul, Nat.reduceSub, Nat.reduceLT, Nat.reduceEqDiff, Int.reduceAdd, Int.reduceSub, Int.reduceLE, Int.reduceLT, Int.reduceEq, Int.reduceNe, Int.reduceToNat, Int.reduceNeg, reduceIte, reduceCtorEq, eq_false c1, eq_false c2, setAll, List.zip_cons_cons, List.zip_nil_left, List.foldl_cons, List.foldl_nil, eq_false c3, eq_true z1, i1, c4, wrap_i64 _ w2, e0, e1, e2, e3]
              refine H.stP 3 [(aint (a2 + 1))] rfl rfl rfl rfl (Nat.le_of_ble_eq_true rfl) rfl (fun h17 H => ?_)
              have e0 := H.getP 0 rfl
              have e1 := H.getP 1 rfl
              have e2 := H.getP 2 rfl
              have e3 := H.getP 3 rfl
              simp (maxSteps := 4000000) -implicitDefEqProofs (disch := omega) only [push_cast, Nat.reduceAdd, Nat.reduceLeDiff, Nat.reduceMul, Nat.reduceSub, Nat.reduceLT, Nat.reduceEqDiff, Int.reduceAdd, Int.reduceSub, Int.reduceLE, Int.reduceLT, Int.reduceEq, Int.reduceNe, Int.reduceToNat, Int.reduceNeg, reduceIte, reduceCtorEq, eq_false c1, eq_false c2, setAll, List.zip_cons_cons, List.zip_nil_left, List.foldl_cons, List.foldl_nil, eq_false c3, eq_true z1, i1, c4, wrap_i64 _ w2, e0, e1, e2, e3]
              rw [fork_cond]
              refine ⟨fun c5 => ?_, fun c5 => ?_⟩
              · replace hm := ifp hm c5
                have e0 := H.getP 0 rfl
                have e1 := H.getP 1 rfl
                have e2 := H.getP 2 rfl
                have e3 := H.getP 3 rfl
                simp (maxSteps := 4000000) -implicitDefEqProofs (disch := omega) only [push_cast, Nat.reduceAdd, Nat.reduceLeDiff, Nat.reduceMul, Nat.reduceSub, Nat.reduceLT, Nat.reduceEqDiff, Int.reduceAdd, Int.reduceSub, Int.reduceLE, Int.reduceLT, Int.reduceEq, Int.reduceNe, Int.reduceToNat, Int.reduceNeg, reduceIte, reduceCtorEq, eq_false c1, eq_false c2, setAll, List.zip_cons_cons, List.zip_nil_left, List.foldl_cons, List.foldl_nil, eq_false c3, eq_true z1, i1, c4, wrap_i64 _ w2, eq_true c5, e0, e1, e2, e3]
                replace H := H.perm [0, 1, 2, 3] (by decide)
                exact rngQ_of 2 (a2 + 1) ⟨rfl, rfl⟩ H.r hm rfl
              · replace hm := ifn hm c5
                have e0 := H.getP 0 rfl
                have e1 := H.getP 1 rfl
                have e2 := H.getP 2 rfl
                have e3 := H.getP 3 rfl
                simp (maxSteps := 4000000) -implicitDefEqProofs (disch := omega) only [push_cast, Nat.reduceAdd, Nat.reduceLeDiff, Nat.reduceMul, Nat.reduceSub, Nat.reduceLT, Nat.reduceEqDiff, Int.reduceAdd, Int.reduceSub, Int.reduceLE, Int.reduceLT, Int.reduceEq, Int.reduceNe, Int.reduceToNat, Int.reduceNeg, reduceIte, reduceCtorEq, eq_false c1, eq_false c2, setAll, List.zip_cons_cons, List.zip_nil_left, List.foldl_cons, List.foldl_nil, eq_false c3, eq_true z1, i1, c4, wrap_i64 _ w2, eq_false c5, e0, e1, e2, e3]
                replace H := H.perm [0, 1, 2, 3] (by decide)
                exact rngQ_of 0 (a2 + 1) ⟨rfl, rfl⟩ H.r hm trivial
        · rintro a2 n2 _ _ h18 hm hI HO
          dsimp only at hm hI
          obtain ⟨rfl, rfl⟩ := hI
          replace H := HO.own
          by_cases c6 : n2 = 1
          · replace hm := ifp hm c6
            subst c6
            have e0 := H.getP 0 rfl
            have e1 := H.getP 1 rfl
            have e2 := H.getP 2 rfl
            have e3 := H.getP 3 rfl
            simp (maxSteps := 4000000) -implicitDefEqProofs (disch := omega) only [push_cast, Nat.reduceAdd, Nat.reduceLeDiff, Nat.reduceMul, Nat.reduceSub, Nat.reduceLT, Nat.reduceEqDiff, Int.reduceAdd, Int.reduceSub, Int.reduceLE, Int.reduceLT, Int.reduceEq, Int.reduceNe, Int.reduceToNat, Int.reduceNeg, reduceIte, reduceCtorEq, eq_false c1, eq_false c2, penOf, apend, e0, e1, e2, e3]
            have e0 := H.getP 0 rfl
            have e1 := H.getP 1 rfl
            have e2 := H.getP 2 rfl
            have e3 := H.getP 3 rfl
            exact retQ_back (.inl rfl) false (abool false) (by simp [aResults, resAll, resOne, push_cast, e0, e1, e2, e3]) (Shift.refl _ _) H.sub hm
          replace hm := ifn hm c6
          by_cases c7 : n2 = 2
          · replace hm := ifp hm c7
            subst c7
            have e0 := H.getP 0 rfl
            have e1 := H.getP 1 rfl
            have e2 := H.getP 2 rfl
            have e3 := H.getP 3 rfl
            simp (maxSteps := 4000000) -implicitDefEqProofs (disch := omega) only [push_cast, Nat.reduceAdd, Nat.reduceLeDiff, Nat.reduceMul, Nat.reduceSub, Nat.reduceLT, Nat.reduceEqDiff, Int.reduceAdd, Int.reduceSub, Int.reduceLE, Int.reduceLT, Int.reduceEq, Int.reduceNe, Int.reduceToNat, Int.reduceNeg, reduceIte, reduceCtorEq, eq_false c1, eq_false c2, penOf, apend, e0, e1, e2, e3]
            replace H := H.perm [0, 1, 2, 3] (by decide)
            exact ⟨a2, h18, by simp [Like, push_cast], rfl, H, hm⟩
          replace hm := ifn hm c7
          rw [penOf_none (by simp only [List.length_cons, List.length_nil]; omega)]
          have e0 := H.getP 0 rfl
          have e1 := H.getP 1 rfl
          have e2 := H.getP 2 rfl
          have e3 := H.getP 3 rfl
          simp (maxSteps := 4000000) -implicitDefEqProofs (disch := omega) only [push_cast, Nat.reduceAdd, Nat.reduceLeDiff, Nat.reduceMul, Nat.reduceSub, Nat.reduceLT, Nat.reduceEqDiff, Int.reduceAdd, Int.reduceSub, Int.reduceLE, Int.reduceLT, Int.reduceEq, Int.reduceNe, Int.reduceToNat, Int.reduceNeg, reduceIte, reduceCtorEq, eq_false c1, eq_false c2, penOf, apend, e0, e1, e2, e3]
          replace H := H.perm [0, 1, 2, 3] (by decide)
          exact ⟨a2, h18, by simp [Like, push_cast], rfl, H, hm⟩
      · rintro ⟨tm, h12⟩ ⟨a1, _, hL, rfl, H, hm⟩
        dsimp only at hL H
        obtain ⟨D, rfl⟩ := hL.fill 0
        replace hm := hk1 _ hm
        have e0 := H.getP 0 rfl
        have e1 := H.getP 1 rfl
        have e2 := H.getP 2 rfl
        have e3 := H.getP 3 rfl
        simp (maxSteps := 4000000) -implicitDefEqProofs (disch := omega) only [push_cast, Nat.reduceAdd, Nat.reduceLeDiff, Nat.reduceMul, Nat.reduceSub, Nat.reduceLT, Nat.reduceEqDiff, Int.reduceAdd, Int.reduceSub, Int.reduceLE, Int.reduceLT, Int.reduceEq, Int.reduceNe, Int.reduceToNat, Int.reduceNeg, reduceIte, reduceCtorEq, eq_false c1, eq_false c2, e0, e1, e2, e3]
        obtain ⟨k3, hm, hk2⟩ := wcut_elim hm
        refine awp_cut (fun s' => ∃ (h19 : Hp), Like s'.tm ((((List.replicate 97 none).set 0 (some (.isl 3 (a0_.map ApiTok.enc)))).set 6 (some (.optr b2 1 0 0))).set 7 (some (.isl 3 (a0_.map ApiTok.enc)))) ∧ s'.h = h19 ∧ AM.Own h0 h19 [⟨(.optr b2 1 0 0), true, 1, [[(abool false)]], some (4, 1)⟩] ∧ k3 ()) ?_ ?_
        · have e0 := H.getP 0 rfl
          have e1 := H.getP 1 rfl
          have e2 := H.getP 2 rfl
          have e3 := H.getP 3 rfl
          simp (maxSteps := 4000000) -implicitDefEqProofs (disch := omega) only [push_cast, Nat.reduceAdd, Nat.reduceLeDiff, Nat.reduceMul, Nat.reduceSub, Nat.reduceLT, Nat.reduceEqDiff, Int.reduceAdd, Int.reduceSub, Int.reduceLE, Int.reduceLT, Int.reduceEq, Int.reduceNe, Int.reduceToNat, Int.reduceNeg, reduceIte, reduceCtorEq, eq_false c1, eq_false c2, e0, e1, e2, e3]
          rw [gfork_cond]
          refine ⟨fun c8 => ?_, fun c8 => ?_⟩
          · replace hm := ifn hm c8
            have e0 := H.getP 0 rfl
            have e1 := H.getP 1 rfl
            have e2 := H.getP 2 rfl
            have e3 := H.getP 3 rfl
            simp (maxSteps := 4000000) -implicitDefEqProofs (disch := omega) only [push_cast, Nat.reduceAdd, Nat.reduceLeDiff, Nat.reduceMul, Nat.reduceSub, Nat.reduceLT, Nat.reduceEqDiff, Int.reduceAdd, Int.reduceSub, Int.reduceLE, Int.reduceLT, Int.reduceEq, Int.reduceNe, Int.reduceToNat, Int.reduceNeg, reduceIte, reduceCtorEq, eq_false c1, eq_false c2, eq_false c8, e0, e1, e2, e3]
            rw [gfork_cond']
            refine ⟨fun c9 => ?_, fun c9 => ?_⟩
            · replace hm := ifn hm c9
              have e0 := H.getP 0 rfl
              have e1 := H.getP 1 rfl
              have e2 := H.getP 2 rfl
              have e3 := H.getP 3 rfl
              simp (maxSteps := 4000000) -implicitDefEqProofs (disch := omega) only [push_cast, Nat.reduceAdd, Nat.reduceLeDiff, Nat.reduceMul, Nat.reduceSub, Nat.reduceLT, Nat.reduceEqDiff, Int.reduceAdd, Int.reduceSub, Int.reduceLE, Int.reduceLT, Int.reduceEq, Int.reduceNe, Int.reduceToNat, Int.reduceNeg, reduceIte, reduceCtorEq, eq_false c1, eq_false c2, eq_false c8, eq_false c9, e0, e1, e2, e3]
              refine H.stP 1 [(abool false)] rfl rfl rfl rfl (Nat.le_of_ble_eq_true rfl) rfl (fun h20 H => ?_)
              have e0 := H.getP 0 rfl
              have e1 := H.getP 1 rfl
              have e2 := H.getP 2 rfl
              have e3 := H.getP 3 rfl
              simp (maxSteps := 4000000) -implicitDefEqProofs (disch := omega) only [push_cast, Nat.reduceAdd, Nat.reduceLeDiff, Nat.reduceMul, Nat.reduceSub, Nat.reduceLT, Nat.reduceEqDiff, Int.reduceAdd, Int.reduceSub, Int.reduceLE, Int.reduceLT, Int.reduceEq, Int.reduceNe, Int.reduceToNat, Int.reduceNeg, reduceIte, reduceCtorEq, eq_false c1, eq_false c2, eq_false c8, eq_false c9, e0, e1, e2, e3]
              have e0 := H.getP 0 rfl
              have e1 := H.getP 1 rfl
              have e2 := H.getP 2 rfl
              have e3 := H.getP 3 rfl
              exact retQ_back (.inl rfl) false (abool false) (by simp [aResults, resAll, resOne, push_cast, e0, e1, e2, e3]) (Shift.refl _ _) H.sub hm
            · replace c9 := Decidable.not_not.1 c9
              replace hm := ifp hm c9
              have e0 := H.getP 0 rfl
              have e1 := H.getP 1 rfl
              have e2 := H.getP 2 rfl
              have e3 := H.getP 3 rfl
              simp (maxSteps := 4000000) -implicitDefEqProofs (disch := omega) only [push_cast, Nat.reduceAdd, Nat.reduceLeDiff, Nat.reduceMul, Nat.reduceSub, Nat.reduceLT, Nat.reduceEqDiff, Int.reduceAdd, Int.reduceSub, Int.reduceLE, Int.reduceLT, Int.reduceEq, Int.reduceNe, Int.reduceToNat, Int.reduceNeg, reduceIte, reduceCtorEq, eq_false c1, eq_false c2, eq_false c8, eq_true c9, e0, e1, e2, e3]
              refine calls_w (fun h => seek_At.ok hm h) (fun r5 hm => ?_)
              have e0 := H.getP 0 rfl
              have e1 := H.getP 1 rfl
              have e2 := H.getP 2 rfl
              have e3 := H.getP 3 rfl
              simp (maxSteps := 4000000) -implicitDefEqProofs (disch := omega) only [push_cast, Nat.reduceAdd, Nat.reduceLeDiff, Nat.reduceMul, Nat.reduceSub, Nat.reduceLT, Nat.reduceEqDiff, Int.reduceAdd, Int.reduceSub, Int.reduceLE, Int.reduceLT, Int.reduceEq, Int.reduceNe, Int.reduceToNat, Int.reduceNeg, reduceIte, reduceCtorEq, eq_false c1, eq_false c2, eq_false c8, eq_true c9, e0, e1, e2, e3]
              refine calls_w (fun h => stylusref33_At.ok hm h) (fun r6 hm => ?_)
              have e0 := H.getP 0 rfl
              have e1 := H.getP 1 rfl
              have e2 := H.getP 2 rfl
              have e3 := H.getP 3 rfl
              simp (maxSteps := 4000000) -implicitDefEqProofs (disch := omega) only [push_cast, Nat.reduceAdd, Nat.reduceLeDiff, Nat.reduceMul, Nat.reduceSub, Nat.reduceLT, Nat.reduceEqDiff, Int.reduceAdd, Int.reduceSub, Int.reduceLE, Int.reduceLT, Int.reduceEq, Int.reduceNe, Int.reduceToNat, Int.reduceNeg, reduceIte, reduceCtorEq, eq_false c1, eq_false c2, eq_false c8, eq_true c9, e0, e1, e2, e3]
              refine calls_w (fun h => styluslaw33_row.ok hm h) (fun r7 hm => ?_)
              have e0 := H.getP 0 rfl
              have e1 := H.getP 1 rfl
              have e2 := H.getP 2 rfl
              have e3 := H.getP 3 rfl
              simp (maxSteps := 4000000) -implicitDefEqProofs (disch := omega) only [push_cast, Nat.reduceAdd, Nat.reduceLeDiff, Nat.reduceMul, Nat.reduceSub, Nat.reduceLT, Nat.reduceEqDiff, Int.reduceAdd, Int.reduceSub, Int.reduceLE, Int.reduceLT, Int.reduceEq, Int.reduceNe, Int.reduceToNat, Int.reduceNeg, reduceIte, reduceCtorEq, eq_false c1, eq_false c2, eq_false c8, eq_true c9, e0, e1, e2, e3]
              rw [gfork_bool']
              refine ⟨fun c10 => ?_, fun c10 => ?_⟩
              · replace hm := ifp hm c10
                have e0 := H.getP 0 rfl
                have e1 := H.getP 1 rfl
                have e2 := H.getP 2 rfl
                have e3 := H.getP 3 rfl
                simp (maxSteps := 4000000) -implicitDefEqProofs (disch := omega) only [push_cast, Nat.reduceAdd, Nat.reduceLeDiff, Nat.reduceMul, Nat.reduceSub, Nat.reduceLT, Nat.reduceEqDiff, Int.reduceAdd, Int.reduceSub, Int.reduceLE, Int.reduceLT, Int.reduceEq, Int.reduceNe, Int.reduceToNat, Int.reduceNeg, reduceIte, reduceCtorEq, eq_false c1, eq_false c2, eq_false c8, eq_true c9, c10, e0, e1, e2, e3]
                refine H.stP 1 [(abool false)] rfl rfl rfl rfl (Nat.le_of_ble_eq_true rfl) rfl (fun h21 H => ?_)
                have e0 := H.getP 0 rfl
                have e1 := H.getP 1 rfl
                have e2 := H.getP 2 rfl
                have e3 := H.getP 3 rfl
                simp (maxSteps := 4000000) -implicitDefEqProofs (disch := omega) only [push_cast, Nat.reduceAdd, Nat.reduceLeDiff, Nat.reduceMul, Nat.reduceSub, Nat.reduceLT, Nat.reduceEqDiff, Int.reduceAdd, Int.reduceSub, Int.reduceLE, Int.reduceLT, Int.reduceEq, Int.reduceNe, Int.reduceToNat, Int.reduceNeg, reduceIte, reduceCtorEq, eq_false c1, eq_false c2, eq_false c8, eq_true c9, c10, e0, e1, e2, e3]
                have e0 := H.getP 0 rfl
                have e1 := H.getP 1 rfl
                have e2 := H.getP 2 rfl
                have e3 := H.getP 3 rfl
                exact retQ_back (.inl rfl) false (abool false) (by simp [aResults, resAll, resOne, push_cast, e0, e1, e2, e3]) (Shift.refl _ _) H.sub hm
              · replace hm := ifn hm (by rw [c10]; exact Bool.false_ne_true)
                have e0 := H.getP 0 rfl
                have e1 := H.getP 1 rfl
                have e2 := H.getP 2 rfl
                have e3 := H.getP 3 rfl
                simp (maxSteps := 4000000) -implicitDefEqProofs (disch := omega) only [push_cast, Nat.reduceAdd, Nat.reduceLeDiff, Nat.reduceMul, Nat.reduceSub, Nat.reduceLT, Nat.reduceEqDiff, Int.reduceAdd, Int.reduceSub, Int.reduceLE, Int.reduceLT, Int.reduceEq, Int.reduceNe, Int.reduceToNat, Int.reduceNeg, reduceIte, reduceCtorEq, eq_false c1, eq_false c2, eq_false c8, eq_true c9, c10, e0, e1, e2, e3]
                refine calls_w (fun h => seek_Index.ok hm h) (fun r8 hm => ?_)
                have e0 := H.getP 0 rfl
                have e1 := H.getP 1 rfl
                have e2 := H.getP 2 rfl
                have e3 := H.getP 3 rfl
                simp (maxSteps := 4000000) -implicitDefEqProofs (disch := omega) only [push_cast, Nat.reduceAdd, Nat.reduceLeDiff, Nat.reduceMul, Nat.reduceSub, Nat.reduceLT, Nat.reduceEqDiff, Int.reduceAdd, Int.reduceSub, Int.reduceLE, Int.reduceLT, Int.reduceEq, Int.reduceNe, Int.reduceToNat, Int.reduceNeg, reduceIte, reduceCtorEq, eq_false c1, eq_false c2, eq_false c8, eq_true c9, c10, e0, e1, e2, e3]
                refine calls_w (fun h => stylusref33_Index.ok hm h) (fun r9 hm => ?_)
                have e0 := H.getP 0 rfl
                have e1 := H.getP 1 rfl
                have e2 := H.getP 2 rfl
                have e3 := H.getP 3 rfl
                simp (maxSteps := 4000000) -implicitDefEqProofs (disch := omega) only [push_cast, Nat.reduceAdd, Nat.reduceLeDiff, Nat.reduceMul, Nat.reduceSub, Nat.reduceLT, Nat.reduceEqDiff, Int.reduceAdd, Int.reduceSub, Int.reduceLE, Int.reduceLT, Int.reduceEq, Int.reduceNe, Int.reduceToNat, Int.reduceNeg, reduceIte, reduceCtorEq, eq_false c1, eq_false c2, eq_false c8, eq_true c9, c10, e0, e1, e2, e3]
                refine calls_w (fun h => styluslaw33_texts.ok hm h) (fun r10 hm => ?_)
                have e0 := H.getP 0 rfl
                have e1 := H.getP 1 rfl
                have e2 := H.getP 2 rfl
                have e3 := H.getP 3 rfl
                simp (maxSteps := 4000000) -implicitDefEqProofs (disch := omega) only [push_cast, Nat.reduceAdd, Nat.reduceLeDiff, Nat.reduceMul, Nat.reduceSub, Nat.reduceLT, Nat.reduceEqDiff, Int.reduceAdd, Int.reduceSub, Int.reduceLE, Int.reduceLT, Int.reduceEq, Int.reduceNe, Int.reduceToNat, Int.reduceNeg, reduceIte, reduceCtorEq, eq_false c1, eq_false c2, eq_false c8, eq_true c9, c10, e0, e1, e2, e3]
                rw [fork_bool]
                refine ⟨fun c11 => ?_, fun c11 => ?_⟩
                · replace hm := ifp hm c11
                  have e0 := H.getP 0 rfl
                  have e1 := H.getP 1 rfl
                  have e2 := H.getP 2 rfl
                  have e3 := H.getP 3 rfl
                  simp (maxSteps := 4000000) -implicitDefEqProofs (disch := omega) only [push_cast, Nat.reduceAdd, Nat.reduceLeDiff, Nat.reduceMul, Nat.reduceSub, Nat.reduceLT, Nat.reduceEqDiff, Int.reduceAdd, Int.reduceSub, Int.reduceLE, Int.reduceLT, Int.reduceEq, Int.reduceNe, Int.reduceToNat, Int.reduceNeg, reduceIte, reduceCtorEq, eq_false c1, eq_false c2, eq_false c8, eq_true c9, c10, c11, e0, e1, e2, e3]
                  refine H.stP 1 [(abool false)] rfl rfl rfl rfl (Nat.le_of_ble_eq_true rfl) rfl (fun h22 H => ?_)
                  have e0 := H.getP 0 rfl
                  have e1 := H.getP 1 rfl
                  have e2 := H.getP 2 rfl
                  have e3 := H.getP 3 rfl
                  simp (maxSteps := 4000000) -implicitDefEqProofs (disch := omega) only [push_cast, Nat.reduceAdd, Nat.reduceLeDiff, Nat.reduceMul, Nat.reduceSub, Nat.reduceLT, Nat.reduceEqDiff, Int.reduceAdd, Int.reduceSub, Int.reduceLE, Int.reduceLT, Int.reduceEq, Int.reduceNe, Int.reduceToNat, Int.reduceNeg, reduceIte, reduceCtorEq, eq_false c1, eq_false c2, eq_false c8, eq_true c9, c10, c11, e0, e1, e2, e3]
                  have e0 := H.getP 0 rfl
                  have e1 := H.getP 1 rfl
                  have e2 := H.getP 2 rfl
                  have e3 := H.getP 3 rfl
                  exact retQ_back (.inl rfl) false (abool false) (by simp [aResults, resAll, resOne, push_cast, e0, e1, e2, e3]) (Shift.refl _ _) H.sub hm
                · replace hm := ifn hm (by rw [c11]; exact Bool.false_ne_true)
                  have e0 := H.getP 0 rfl
                  have e1 := H.getP 1 rfl
                  have e2 := H.getP 2 rfl
                  have e3 := H.getP 3 rfl
                  simp (maxSteps := 4000000) -implicitDefEqProofs (disch := omega) only [push_cast, Nat.reduceAdd, Nat.reduceLeDiff, Nat.reduceMul, Nat.reduceSub, Nat.reduceLT, Nat.reduceEqDiff, Int.reduceAdd, Int.reduceSub, Int.reduceLE, Int.reduceLT, Int.reduceEq, Int.reduceNe, Int.reduceToNat, Int.reduceNeg, reduceIte, reduceCtorEq, eq_false c1, eq_false c2, eq_false c8, eq_true c9, c10, c11, e0, e1, e2, e3]
                  replace H := H.perm [1] (by decide)
                  exact ⟨h12, by simp [Like, push_cast], rfl, H, hm⟩
          · replace c8 := Decidable.not_not.1 c8
            replace hm := ifp hm c8
            have e0 := H.getP 0 rfl
            have e1 := H.getP 1 rfl
            have e2 := H.getP 2 rfl
            have e3 := H.getP 3 rfl
            simp (maxSteps := 4000000) -implicitDefEqProofs (disch := omega) only [push_cast, Nat.reduceAdd, Nat.reduceLeDiff, Nat.reduceMul, Nat.reduceSub, Nat.reduceLT, Nat.reduceEqDiff, Int.reduceAdd, Int.reduceSub, Int.reduceLE, Int.reduceLT, Int.reduceEq, Int.reduceNe, Int.reduceToNat, Int.reduceNeg, reduceIte, reduceCtorEq, eq_false c1, eq_false c2, eq_true c8, e0, e1, e2, e3]
            refine calls_w (fun h => seek_At.ok hm h) (fun r11 hm => ?_)
            have e0 := H.getP 0 rfl
            have e1 := H.getP 1 rfl
            have e2 := H.getP 2 rfl
            have e3 := H.getP 3 rfl
            simp (maxSteps := 4000000) -implicitDefEqProofs (disch := omega) only [push_cast, Nat.reduceAdd, Nat.reduceLeDiff, Nat.reduceMul, Nat.reduceSub, Nat.reduceLT, Nat.reduceEqDiff, Int.reduceAdd, Int.reduceSub, Int.reduceLE, Int.reduceLT, Int.reduceEq, Int.reduceNe, Int.reduceToNat, Int.reduceNeg, reduceIte, reduceCtorEq, eq_false c1, eq_false c2, eq_true c8, e0, e1, e2, e3]
            refine calls_w (fun h => stylusref33_At.ok hm h) (fun r12 hm => ?_)
            have e0 := H.getP 0 rfl
            have e1 := H.getP 1 rfl
            have e2 := H.getP 2 rfl
            have e3 := H.getP 3 rfl
            simp (maxSteps := 4000000) -implicitDefEqProofs (disch := omega) only [push_cast, Nat.reduceAdd, Nat.reduceLeDiff, Nat.reduceMul, Nat.reduceSub, Nat.reduceLT, Nat.reduceEqDiff, Int.reduceAdd, Int.reduceSub, Int.reduceLE, Int.reduceLT, Int.reduceEq, Int.reduceNe, Int.reduceToNat, Int.reduceNeg, reduceIte, reduceCtorEq, eq_false c1, eq_false c2, eq_true c8, e0, e1, e2, e3]
            refine calls_w (fun h => styluslaw33_row.ok hm h) (fun r13 hm => ?_)
            have e0 := H.getP 0 rfl
            have e1 := H.getP 1 rfl
            have e2 := H.getP 2 rfl
            have e3 := H.getP 3 rfl
            simp (maxSteps := 4000000) -implicitDefEqProofs (disch := omega) only [push_cast, Nat.reduceAdd, Nat.reduceLeDiff, Nat.reduceMul, Nat.reduceSub, Nat.reduceLT, Nat.reduceEqDiff, Int.reduceAdd, Int.reduceSub, Int.reduceLE, Int.reduceLT, Int.reduceEq, Int.reduceNe, Int.reduceToNat, Int.reduceNeg, reduceIte, reduceCtorEq, eq_false c1, eq_false c2, eq_true c8, e0, e1, e2, e3]
            rw [gfork_bool']
            refine ⟨fun c12 => ?_, fun c12 => ?_⟩
            · replace hm := ifp hm c12
              have e0 := H.getP 0 rfl
              have e1 := H.getP 1 rfl
              have e2 := H.getP 2 rfl
              have e3 := H.getP 3 rfl
              simp (maxSteps := 4000000) -implicitDefEqProofs (disch := omega) only [push_cast, Nat.reduceAdd, Nat.reduceLeDiff, Nat.reduceMul, Nat.reduceSub, Nat.reduceLT, Nat.reduceEqDiff, Int.reduceAdd, Int.reduceSub, Int.reduceLE, Int.reduceLT, Int.reduceEq, Int.reduceNe, Int.reduceToNat, Int.reduceNeg, reduceIte, reduceCtorEq, eq_false c1, eq_false c2, eq_true c8, c12, e0, e1, e2, e3]
              refine H.stP 1 [(abool false)] rfl rfl rfl rfl (Nat.le_of_ble_eq_true rfl) rfl (fun h23 H => ?_)
              have e0 := H.getP 0 rfl
              have e1 := H.getP 1 rfl
              have e2 := H.getP 2 rfl
              have e3 := H.getP 3 rfl
              simp (maxSteps := 4000000) -implicitDefEqProofs (disch := omega) only [push_cast, Nat.reduceAdd, Nat.reduceLeDiff, Nat.reduceMul, Nat.reduceSub, Nat.reduceLT, Nat.reduceEqDiff, Int.reduceAdd, Int.reduceSub, Int.reduceLE, Int.reduceLT, Int.reduceEq, Int.reduceNe, Int.reduceToNat, Int.reduceNeg, reduceIte, reduceCtorEq, eq_false c1, eq_false c2, eq_true c8, c12, e0, e1, e2, e3]
              have e0 := H.getP 0 rfl
              have e1 := H.getP 1 rfl
              have e2 := H.getP 2 rfl
              have e3 := H.getP 3 rfl
              exact retQ_back (.inl rfl) false (abool false) (by simp [aResults, resAll, resOne, push_cast, e0, e1, e2, e3]) (Shift.refl _ _) H.sub hm
            · replace hm := ifn hm (by rw [c12]; exact Bool.false_ne_true)
              have e0 := H.getP 0 rfl
              have e1 := H.getP 1 rfl
              have e2 := H.getP 2 rfl
              have e3 := H.getP 3 rfl
              simp (maxSteps := 4000000) -implicitDefEqProofs (disch := omega) only [push_cast, Nat.reduceAdd, Nat.reduceLeDiff, Nat.reduceMul, Nat.reduceSub, Nat.reduceLT, Nat.reduceEqDiff, Int.reduceAdd, Int.reduceSub, Int.reduceLE, Int.reduceLT, Int.reduceEq, Int.reduceNe, Int.reduceToNat, Int.reduceNeg, reduceIte, reduceCtorEq, eq_false c1, eq_false c2, eq_true c8, c12, e0, e1, e2, e3]
              refine calls_w (fun h => seek_Index.ok hm h) (fun r14 hm => ?_)
              have e0 := H.getP 0 rfl
              have e1 := H.getP 1 rfl
              have e2 := H.getP 2 rfl
              have e3 := H.getP 3 rfl
              simp (maxSteps := 4000000) -implicitDefEqProofs (disch := omega) only [push_cast, Nat.reduceAdd, Nat.reduceLeDiff, Nat.reduceMul, Nat.reduceSub, Nat.reduceLT, Nat.reduceEqDiff, Int.reduceAdd, Int.reduceSub, Int.reduceLE, Int.reduceLT, Int.reduceEq, Int.reduceNe, Int.reduceToNat, Int.reduceNeg, reduceIte, reduceCtorEq, eq_false c1, eq_false c2, eq_true c8, c12, e0, e1, e2, e3]
              refine calls_w (fun h => stylusref33_Index.ok hm h) (fun r15 hm => ?_)
              have e0 := H.getP 0 rfl
              have e1 := H.getP 1 rfl
              have e2 := H.getP 2 rfl
              have e3 := H.getP 3 rfl
              simp (maxSteps := 4000000) -implicitDefEqProofs (disch := omega) only [push_cast, Nat.reduceAdd, Nat.reduceLeDiff, Nat.reduceMul, Nat.reduceSub, Nat.reduceLT, Nat.reduceEqDiff, Int.reduceAdd, Int.reduceSub, Int.reduceLE, Int.reduceLT, Int.reduceEq, Int.reduceNe, Int.reduceToNat, Int.reduceNeg, reduceIte, reduceCtorEq, eq_false c1, eq_false c2, eq_true c8, c12, e0, e1, e2, e3]
              refine calls_w (fun h => styluslaw33_texts.ok hm h) (fun r16 hm => ?_)
              have e0 := H.getP 0 rfl
              have e1 := H.getP 1 rfl
              have e2 := H.getP 2 rfl
              have e3 := H.getP 3 rfl
              simp (maxSteps := 4000000) -implicitDefEqProofs (disch := omega) only [push_cast, Nat.reduceAdd, Nat.reduceLeDiff, Nat.reduceMul, Nat.reduceSub, Nat.reduceLT, Nat.reduceEqDiff, Int.reduceAdd, Int.reduceSub, Int.reduceLE, Int.reduceLT, Int.reduceEq, Int.reduceNe, Int.reduceToNat, Int.reduceNeg, reduceIte, reduceCtorEq, eq_false c1, eq_false c2, eq_true c8, c12, e0, e1, e2, e3]
              rw [fork_bool]
              refine ⟨fun c13 => ?_, fun c13 => ?_⟩
              · replace hm := ifp hm c13
                have e0 := H.getP 0 rfl
                have e1 := H.getP 1 rfl
                have e2 := H.getP 2 rfl
                have e3 := H.getP 3 rfl
                simp (maxSteps := 4000000) -implicitDefEqProofs (disch := omega) only [push_cast, Nat.reduceAdd, Nat.reduceLeDiff, Nat.reduceMul, Nat.reduceSub, Nat.reduceLT, Nat.reduceEqDiff, Int.reduceAdd, Int.reduceSub, Int.reduceLE, Int.reduceLT, Int.reduceEq, Int.reduceNe, Int.reduceToNat, Int.reduceNeg, reduceIte, reduceCtorEq, eq_false c1, eq_false c2, eq_true c8, c12, c13, e0, e1, e2, e3]
                refine H.stP 1 [(abool false)] rfl rfl rfl rfl (Nat.le_of_ble_eq_true rfl) rfl (fun h24 H => ?_)
                have e0 := H.getP 0 rfl
                have e1 := H.getP 1 rfl
                have e2 := H.getP 2 rfl
                have e3 := H.getP 3 rfl
                simp (maxSteps := 4000000) -implicitDefEqProofs (disch := omega) only [push_cast, Nat.reduceAdd, Nat.reduceLeDiff, Nat.reduceMul, Nat.reduceSub, Nat.reduceLT, Nat.reduceEqDiff, Int.reduceAdd, Int.reduceSub, Int.reduceLE, Int.reduceLT, Int.reduceEq, Int.reduceNe, Int.reduceToNat, Int.reduceNeg, reduceIte, reduceCtorEq, eq_false c1, eq_false c2, eq_true c8, c12, c13, e0, e1, e2, e3]
                have e0 := H.getP 0 rfl
                have e1 := H.getP 1 rfl
                have e2 := H.getP 2 rfl
                have e3 := H.getP 3 rfl
                exact retQ_back (.inl rfl) false (abool false) (by simp [aResults, resAll, resOne, push_cast, e0, e1, e2, e3]) (Shift.refl _ _) H.sub hm
              · replace hm := ifn hm (by rw [c13]; exact Bool.false_ne_true)
                have e0 := H.getP 0 rfl
                have e1 := H.getP 1 rfl
                have e2 := H.getP 2 rfl
                have e3 := H.getP 3 rfl
                simp (maxSteps := 4000000) -implicitDefEqProofs (disch := omega) only [push_cast, Nat.reduceAdd, Nat.reduceLeDiff, Nat.reduceMul, Nat.reduceSub, Nat.reduceLT, Nat.reduceEqDiff, Int.reduceAdd, Int.reduceSub, Int.reduceLE, Int.reduceLT, Int.reduceEq, Int.reduceNe, Int.reduceToNat, Int.reduceNeg, reduceIte, reduceCtorEq, eq_false c1, eq_false c2, eq_true c8, c12, c13, e0, e1, e2, e3]
                replace H := H.perm [1] (by decide)
                exact ⟨h12, by simp [Like, push_cast], rfl, H, hm⟩
        · rintro ⟨tm, h19⟩ ⟨_, hL, rfl, H, hm⟩
          dsimp only at hL H
          obtain ⟨D, rfl⟩ := hL.fill 0
          replace hm := hk2 _ hm
          have e0 := H.getP 0 rfl
          simp (maxSteps := 4000000) -implicitDefEqProofs (disch := omega) only [push_cast, Nat.reduceAdd, Nat.reduceLeDiff, Nat.reduceMul, Nat.reduceSub, Nat.reduceLT, Nat.reduceEqDiff, Int.reduceAdd, Int.reduceSub, Int.reduceLE, Int.reduceLT, Int.reduceEq, Int.reduceNe, Int.reduceToNat, Int.reduceNeg, reduceIte, reduceCtorEq, eq_false c1, eq_false c2, e0]
          obtain ⟨inv1, mu1, hi1, hs1⟩ := hm
          replace H := H.perm [0] (by decide)
          refine awp_loop (σ := Int × Hp) (fun ⟨a3, h25⟩ => ⟨((((List.replicate 97 AV.any).set 0 (.isl 3 (a0_.map ApiTok.enc))).set 6 (.optr b2 1 0 0)).set 7 (.isl 3 (a0_.map ApiTok.enc))).set 13 (aint a3), h25⟩) (fun ⟨a3, h25⟩ => inv1 a3 ∧ AM.Own h0 h25 [⟨(.optr b2 1 0 0), true, 1, [[(abool false)]], some (4, 1)⟩]) (fun ⟨a3, h25⟩ => mu1 a3) ⟨0, h19⟩ (Retell.weak (by simp [Weak, push_cast]) (Hp.sub.refl _)) ⟨hi1, H⟩ ?_
          rintro ⟨a3, h25⟩ ⟨hi1, H⟩
          have hm := hs1 _ hi1
          dsimp only at hm H ⊢
          have e0 := H.getP 0 rfl
          simp (maxSteps := 4000000) -implicitDefEqProofs (disch := omega) only [push_cast, Nat.reduceAdd, Nat.reduceLeDiff, Nat.reduceMul, Nat.reduceSub, Nat.reduceLT, Nat.reduceEqDiff, Int.reduceAdd, Int.reduceSub, Int.reduceLE, Int.reduceLT, Int.reduceEq, Int.reduceNe, Int.reduceToNat, Int.reduceNeg, reduceIte, reduceCtorEq, eq_false c1, eq_false c2, e0]
          rw [fork_cond]
          refine ⟨fun c14 => ?_, fun c14 => ?_⟩
          · replace hm := ifp hm c14
            obtain ⟨z2, hm⟩ := hm
            obtain ⟨v4, i2, hm⟩ := hm
            obtain ⟨w3, hm⟩ := hm
            have e0 := H.getP 0 rfl
            simp (maxSteps := 4000000) -implicitDefEqProofs (disch := omega) only [push_cast, Nat.reduceAdd, Nat.reduceLeDiff, Nat.reduceMul, Nat.reduceSub, Nat.reduceLT, Nat.reduceEqDiff, Int.reduceAdd, Int.reduceSub, Int.reduceLE, Int.reduceLT, Int.reduceEq, Int.reduceNe, Int.reduceToNat, Int.reduceNeg, reduceIte, reduceCtorEq, eq_false c1, eq_false c2, eq_true c14, eq_true z2, i2, wrap_i64 _ w3, e0]
            replace H := H.perm [0] (by decide)
            exact ⟨⟨a3 + 1, h25⟩, hm.2, ⟨hm.1, H⟩, Retell.weak (by simp [Weak, push_cast]) (Hp.sub.refl _)⟩
          · replace hm := ifn hm c14
            have e0 := H.getP 0 rfl
            simp (maxSteps := 4000000) -implicitDefEqProofs (disch := omega) only [push_cast, Nat.reduceAdd, Nat.reduceLeDiff, Nat.reduceMul, Nat.reduceSub, Nat.reduceLT, Nat.reduceEqDiff, Int.reduceAdd, Int.reduceSub, Int.reduceLE, Int.reduceLT, Int.reduceEq, Int.reduceNe, Int.reduceToNat, Int.reduceNeg, reduceIte, reduceCtorEq, eq_false c1, eq_false c2, eq_false c14, e0]
            refine calls_w (fun h => styluslaw33_awake.ok hm h) (fun r17 hm => ?_)
            have e0 := H.getP 0 rfl
            simp (maxSteps := 4000000) -implicitDefEqProofs (disch := omega) only [push_cast, Nat.reduceAdd, Nat.reduceLeDiff, Nat.reduceMul, Nat.reduceSub, Nat.reduceLT, Nat.reduceEqDiff, Int.reduceAdd, Int.reduceSub, Int.reduceLE, Int.reduceLT, Int.reduceEq, Int.reduceNe, Int.reduceToNat, Int.reduceNeg, reduceIte, reduceCtorEq, eq_false c1, eq_false c2, eq_false c14, e0]
            refine H.stP 0 [(abool r17)] rfl rfl rfl rfl (Nat.le_of_ble_eq_true rfl) rfl (fun h26 H => ?_)
            have e0 := H.getP 0 rfl
            simp (maxSteps := 4000000) -implicitDefEqProofs (disch := omega) only [push_cast, Nat.reduceAdd, Nat.reduceLeDiff, Nat.reduceMul, Nat.reduceSub, Nat.reduceLT, Nat.reduceEqDiff, Int.reduceAdd, Int.reduceSub, Int.reduceLE, Int.reduceLT, Int.reduceEq, Int.reduceNe, Int.reduceToNat, Int.reduceNeg, reduceIte, reduceCtorEq, eq_false c1, eq_false c2, eq_false c14, e0]
            have e0 := H.getP 0 rfl
            exact retQ_back (.inl rfl) r17 (abool r17) (by simp [aResults, resAll, resOne, push_cast, e0]) (Shift.refl _ _) H.sub hm
/-! stylus/chars.Upper -/
abbrev n_chars_Upper : Nat := 27
noncomputable def code_chars_Upper : Code := match Try.f27.body with | some c => c | none => .skip
def ann_chars_Upper : Nat → Ann
  | _ => {}
noncomputable def ac_chars_Upper : AC :=
  (.seq (.reg [⟨some 2, (Op.assign (Operand.const (Value.int IntKind.u8 0))), none, false⟩]) (.seq (.seq (.reg [⟨some 3, (Op.move (Operand.tmp 0)), none, false⟩, ⟨some 4, (Op.call (Call.mk (Callee.value (Operand.func 26)) #[(Operand.tmp 3)] #[5])), none, false⟩, ⟨some 5, (Op.binOp BinOp.eql 3 (Operand.tmp 4) (Operand.const (Value.int IntKind.i64 1)) 3), none, false⟩]) (.cond (Operand.tmp 5) (.seq (.reg [⟨some 6, (Op.move (Operand.tmp 0)), none, false⟩, ⟨some 7, (Op.binOp BinOp.andNot 5 (Operand.tmp 6) (Operand.const (Value.int IntKind.u8 32)) 5), none, false⟩, ⟨some 2, (Op.assign (Operand.tmp 7)), none, false⟩]) .ret) .skip)) (.seq (.reg [⟨some 8, (Op.move (Operand.tmp 0)), none, false⟩, ⟨some 2, (Op.assign (Operand.tmp 8)), none, false⟩]) .ret)))
theorem body_chars_Upper : Try.f27.body = some code_chars_Upper := by kernel_rfl
theorem slim_chars_Upper : slim ann_chars_Upper code_chars_Upper = some ac_chars_Upper := by kernel_rfl
theorem name_chars_Upper : (Try.f27.name == "runtime.NumGoroutine") = false := by kernel_rfl
theorem enter_chars_Upper {args : List AV} {h : Hp} {Q : AE → Hp → Prop} (H : awp Try.prog tab ac_chars_Upper (retQ tab [(ResultVar.tmp 2)] Q) ⟨args ++ List.replicate (9 - args.length) .any, h⟩) : ACalls Try.prog 27 args h Q :=
  acalls_of tab_ok mixed Try.func27 body_chars_Upper name_chars_Upper slim_chars_Upper rfl Try.ntmps27 H
/-- stylus/chars.Upper -/
def chars_Upper.w (a0_ : Int) (Q : Int → Prop) : Prop :=
  chars_Class.w a0_ (fun r1 =>
    if r1 = 1 then
      Q (iandn .u8 a0_ 32)
    else
      Q a0_)
theorem chars_Upper.ok {a0_ : Int} {Q : Int → Prop} (hm : chars_Upper.w a0_ Q) (h0 : Hp) : ACalls Try.prog n_chars_Upper [(.val (.int .u8 a0_))] h0 (Back h0 (fun r => (.val (.int .u8 r))) Q) := by
  refine enter_chars_Upper ?_
  unfold chars_Upper.w at hm
  have H := AM.Own.nil h0
  simp (maxSteps := 4000000) -implicitDefEqProofs (disch := omega) only [push_cast, Nat.reduceAdd, Nat.reduceLeDiff, Nat.reduceMul, Nat.reduceSub, Nat.reduceLT, Nat.reduceEqDiff, Int.reduceAdd, Int.reduceSub, Int.reduceLE, Int.reduceLT, Int.reduceEq, Int.reduceNe, Int.reduceToNat, Int.reduceNeg, reduceIte, reduceCtorEq, ac_chars_Upper]
  refine calls_w (fun h => chars_Class.ok hm h) (fun r1 hm => ?_)
  simp (maxSteps := 4000000) -implicitDefEqProofs (disch := omega) only [push_cast, Nat.reduceAdd, Nat.reduceLeDiff, Nat.reduceMul, Nat.reduceSub, Nat.reduceLT, Nat.reduceEqDiff, Int.reduceAdd, Int.reduceSub, Int.reduceLE, Int.reduceLT, Int.reduceEq, Int.reduceNe, Int.reduceToNat, Int.reduceNeg, reduceIte, reduceCtorEq]
  rw [fork_cond]
  refine ⟨fun c1 => ?_, fun c1 => ?_⟩
  · replace hm := ifp hm c1
    simp (maxSteps := 4000000) -implicitDefEqProofs (disch := omega) only [push_cast, Nat.reduceAdd, Nat.reduceLeDiff, Nat.reduceMul, Nat.reduceSub, Nat.reduceLT, Nat.reduceEqDiff, Int.reduceAdd, Int.reduceSub, Int.reduceLE, Int.reduceLT, Int.reduceEq, Int.reduceNe, Int.reduceToNat, Int.reduceNeg, reduceIte, reduceCtorEq, eq_true c1]
    exact retQ_back (.inl rfl) (iandn .u8 a0_ 32) _ rfl (Shift.refl _ _) H.sub hm
  · replace hm := ifn hm c1
    simp (maxSteps := 4000000) -implicitDefEqProofs (disch := omega) only [push_cast, Nat.reduceAdd, Nat.reduceLeDiff, Nat.reduceMul, Nat.reduceSub, Nat.reduceLT, Nat.reduceEqDiff, Int.reduceAdd, Int.reduceSub, Int.reduceLE, Int.reduceLT, Int.reduceEq, Int.reduceNe, Int.reduceToNat, Int.reduceNeg, reduceIte, reduceCtorEq, eq_false c1]
    exact retQ_back (.inl rfl) a0_ _ rfl (Shift.refl _ _) H.sub hm
end Go.Proofs.Ytnenodamppageaa
