/- Functions of the program: code, what is asked for their answers, the walk (printed by pr.py). -/
import Derived.Test.YtnenodamppageaaWA2
namespace Go.Proofs.Ytnenodamppageaa
open Go Go.Proofs.Ytnenodamppageaa.AM
set_option maxRecDepth 100000
set_option linter.unusedSimpArgs false
set_option linter.unusedVariables false
set_option maxHeartbeats 4000000
/-! stylus/styluslaw33.SeekJoined -/
abbrev n_styluslaw33_SeekJoined : Nat := 4
noncomputable def code_styluslaw33_SeekJoined : Code := match Try.f4.body with | some c => c | none => .skip
def ann_styluslaw33_SeekJoined : Nat → Ann
  | _ => {}
noncomputable def ac_styluslaw33_SeekJoined : AC :=
  (.seq (.reg [⟨some 6, (Op.assign (Operand.const (Value.bool false))), none, false⟩]) (.seq (.seq (.reg [⟨some 11, (Op.move (Operand.tmp 0)), none, false⟩, ⟨some 12, (Op.call (Call.mk (Callee.builtin Builtin.len) #[(Operand.tmp 11)] #[22])), none, false⟩, ⟨some 13, (Op.binOp BinOp.gtr 3 (Operand.tmp 12) (Operand.const (Value.int IntKind.i64 150)) 3), none, false⟩, ⟨some 14, (Op.move (Operand.tmp 13)), none, false⟩, ⟨some 15, (Op.move (Operand.tmp 1)), (some (some 14, false)), false⟩, ⟨some 16, (Op.call (Call.mk (Callee.builtin Builtin.len) #[(Operand.tmp 15)] #[22])), (some (some 14, false)), false⟩, ⟨some 17, (Op.binOp BinOp.gtr 3 (Operand.tmp 16) (Operand.const (Value.int IntKind.i64 150)) 3), (some (some 14, false)), false⟩, ⟨some 18, (Op.pick (Operand.tmp 14) (Operand.const (Value.bool true)) (Operand.tmp 17)), none, false⟩, ⟨some 19, (Op.move (Operand.tmp 18)), none, false⟩, ⟨some 20, (Op.move (Operand.tmp 2)), (some (some 19, false)), false⟩, ⟨some 21, (Op.call (Call.mk (Callee.builtin Builtin.len) #[(Operand.tmp 20)] #[9])), (some (some 19, false)), false⟩, ⟨some 22, (Op.binOp BinOp.gtr 3 (Operand.tmp 21) (Operand.const (Value.int IntKind.i64 60)) 3), (some (some 19, false)), false⟩, ⟨some 23, (Op.pick (Operand.tmp 19) (Operand.const (Value.bool true)) (Operand.tmp 22)), none, false⟩]) (.cond (Operand.tmp 23) (.seq (.reg [⟨some 24, (Op.call (Call.mk (Callee.value (Operand.func 6)) #[] #[])), none, false⟩, ⟨some 6, (Op.assign (Operand.tmp 24)), none, false⟩]) .ret) .skip)) (.seq (.reg [⟨some 25, (Op.buildSlice 22 0 #[]), none, false⟩, ⟨some 26, (Op.move (Operand.tmp 0)), none, false⟩, ⟨some 27, (Op.call (Call.mk (Callee.builtin Builtin.append) #[(Operand.tmp 25), (Operand.tmp 26)] #[22, 22])), none, false⟩, ⟨some 28, (Op.build 38 #[(0, (Operand.const (Value.int IntKind.i64 1))), (1, (Operand.const (Value.int IntKind.u8 32)))]), none, false⟩, ⟨some 29, (Op.buildSlice 22 1 #[(0, (Operand.tmp 28))]), none, false⟩, ⟨some 30, (Op.call (Call.mk (Callee.builtin Builtin.append) #[(Operand.tmp 27), (Operand.tmp 29)] #[22, 22])), none, false⟩, ⟨some 7, (Op.assign (Operand.tmp 30)), none, false⟩]) (.seq (.reg [⟨some 31, (Op.move (Operand.tmp 7)), none, false⟩, ⟨some 32, (Op.move (Operand.tmp 1)), none, false⟩, ⟨some 33, (Op.call (Call.mk (Callee.builtin Builtin.append) #[(Operand.tmp 31), (Operand.tmp 32)] #[22, 22])), none, false⟩, ⟨some 7, (Op.assign (Operand.tmp 33)), none, false⟩]) (.seq (.reg [⟨some 34, (Op.buildSlice 32 0 #[]), none, false⟩, ⟨some 35, (Op.move (Operand.tmp 0)), none, false⟩, ⟨some 36, (Op.move (Operand.tmp 2)), none, false⟩, ⟨some 37, (Op.call (Call.mk (Callee.value (Operand.func 10)) #[(Operand.tmp 35), (Operand.tmp 36)] #[22, 9])), none, false⟩, ⟨some 38, (Op.call (Call.mk (Callee.builtin Builtin.append) #[(Operand.tmp 34), (Operand.tmp 37)] #[32, 32])), none, false⟩, ⟨some 8, (Op.assign (Operand.tmp 38)), none, false⟩]) (.seq (.reg [⟨some 39, (Op.move (Operand.tmp 1)), none, false⟩, ⟨some 40, (Op.move (Operand.tmp 2)), none, false⟩, ⟨some 41, (Op.call (Call.mk (Callee.value (Operand.func 10)) #[(Operand.tmp 39), (Operand.tmp 40)] #[22, 9])), none, false⟩, ⟨some 9, (Op.assign (Operand.tmp 41)), none, false⟩]) (.seq (.seq (.reg [⟨some 10, (Op.assign (Operand.const (Value.int IntKind.i64 0))), none, false⟩]) (.block 0 (.loop (.seq (.seq (.reg [⟨some 42, (Op.move (Operand.tmp 10)), none, false⟩, ⟨some 43, (Op.move (Operand.tmp 9)), none, false⟩, ⟨some 44, (Op.call (Call.mk (Callee.builtin Builtin.len) #[(Operand.tmp 43)] #[32])), none, false⟩, ⟨some 45, (Op.binOp BinOp.lss 3 (Operand.tmp 42) (Operand.tmp 44) 3), none, false⟩]) (.cond (Operand.tmp 45) .skip (.exit 0))) (.seq (.block 1 (.reg [⟨some 48, (Op.move (Operand.tmp 8)), none, false⟩, ⟨some 49, (Op.move (Operand.tmp 9)), none, false⟩, ⟨some 50, (Op.move (Operand.tmp 10)), none, false⟩, ⟨some 51, (Op.indexAddr 32 (Operand.tmp 49) (Operand.tmp 50)), none, false⟩, ⟨some 52, (Op.load 3 (Operand.tmp 51)), none, false⟩, ⟨some 53, (Op.move (Operand.tmp 0)), none, false⟩, ⟨some 54, (Op.call (Call.mk (Callee.builtin Builtin.len) #[(Operand.tmp 53)] #[22])), none, false⟩, ⟨some 55, (Op.binOp BinOp.add 3 (Operand.tmp 52) (Operand.tmp 54) 3), none, false⟩, ⟨some 56, (Op.binOp BinOp.add 3 (Operand.tmp 55) (Operand.const (Value.int IntKind.i64 1)) 3), none, false⟩, ⟨some 57, (Op.buildSlice 32 1 #[(0, (Operand.tmp 56))]), none, false⟩, ⟨some 58, (Op.call (Call.mk (Callee.builtin Builtin.append) #[(Operand.tmp 48), (Operand.tmp 57)] #[32, 32])), none, false⟩, ⟨some 8, (Op.assign (Operand.tmp 58)), none, false⟩])) (.reg [⟨some 46, (Op.move (Operand.tmp 10)), none, false⟩, ⟨some 47, (Op.binOp BinOp.add 3 (Operand.tmp 46) (Operand.const (Value.int IntKind.i64 1)) 3), none, false⟩, ⟨some 10, (Op.assign (Operand.tmp 47)), none, false⟩])))))) (.seq (.reg [⟨some 59, (Op.move (Operand.tmp 7)), none, false⟩, ⟨some 60, (Op.move (Operand.tmp 2)), none, false⟩, ⟨some 61, (Op.call (Call.mk (Callee.value (Operand.func 10)) #[(Operand.tmp 59), (Operand.tmp 60)] #[22, 9])), none, false⟩, ⟨some 62, (Op.move (Operand.tmp 8)), none, false⟩, ⟨some 63, (Op.call (Call.mk (Callee.value (Operand.func 9)) #[(Operand.tmp 61), (Operand.tmp 62)] #[32, 32])), none, false⟩, ⟨some 64, (Op.move (Operand.tmp 63)), none, false⟩, ⟨some 65, (Op.call (Call.mk (Callee.value (Operand.func 6)) #[] #[])), (some (some 64, true)), false⟩, ⟨some 66, (Op.pick (Operand.tmp 64) (Operand.tmp 65) (Operand.const (Value.bool false))), none, false⟩, ⟨some 6, (Op.assign (Operand.tmp 66)), none, false⟩]) .ret))))))))
theorem body_styluslaw33_SeekJoined : Try.f4.body = some code_styluslaw33_SeekJoined := by kernel_rfl
theorem slim_styluslaw33_SeekJoined : slim ann_styluslaw33_SeekJoined code_styluslaw33_SeekJoined = some ac_styluslaw33_SeekJoined := by kernel_rfl
theorem name_styluslaw33_SeekJoined : (Try.f4.name == "runtime.NumGoroutine") = false := by kernel_rfl
theorem enter_styluslaw33_SeekJoined {args : List AV} {h : Hp} {Q : AE → Hp → Prop} (H : awp Try.prog tab ac_styluslaw33_SeekJoined (retQ tab [(ResultVar.tmp 6)] Q) ⟨args ++ List.replicate (67 - args.length) .any, h⟩) : ACalls Try.prog 4 args h Q :=
  acalls_of tab_ok mixed Try.func4 body_styluslaw33_SeekJoined name_styluslaw33_SeekJoined slim_styluslaw33_SeekJoined rfl Try.ntmps4 H
/-- stylus/styluslaw33.SeekJoined -/
def styluslaw33_SeekJoined.w (a0_ : List ApiTok) (a1_ : List ApiTok) (a2_ : ByteArray) (Q : Bool → Prop) : Prop :=
  if 150 < (a0_.length : Int) then
    styluslaw33_awake.w  (fun r1 =>
      Q r1)
  else
    if 150 < (a1_.length : Int) then
      styluslaw33_awake.w  (fun r2 =>
        Q r2)
    else
      if 60 < (a2_.size : Int) then
        styluslaw33_awake.w  (fun r3 =>
          Q r3)
      else
        ((([] : List ApiTok).length + a0_.length) * 24 ≤ 140737488355328) ∧
        ((a0_.length + ([(⟨1, 32, 0⟩ : ApiTok)] : List ApiTok).length) * 24 ≤ 140737488355328) ∧
        (((a0_ ++ ([(⟨1, 32, 0⟩ : ApiTok)] : List ApiTok)).length + a1_.length) * 24 ≤ 140737488355328) ∧
        seek_At.w a0_ a2_ (fun r4 =>
          ((([] : List Int).length + r4.length) * 8 ≤ 140737488355328) ∧
          seek_At.w a1_ a2_ (fun r5 =>
            wloop (σ := (List Int) × Int) (fun ⟨a1, a2⟩ next1 =>
              if a2 < (r5.length : Int) then
                (0 ≤ a2) ∧
                ∃ v1 : Int, r5[a2.toNat]? = some v1 ∧
                (I64 (v1 + (a0_.length : Int))) ∧
                (I64 ((v1 + (a0_.length : Int)) + 1)) ∧
                ((a1.length + ([(v1 + (a0_.length : Int)) + 1] : List Int).length) * 8 ≤ 140737488355328) ∧
                (I64 (a2 + 1)) ∧
                next1 (a1 ++ ([(v1 + (a0_.length : Int)) + 1] : List Int), a2 + 1)
              else
                seek_At.w ((a0_ ++ ([(⟨1, 32, 0⟩ : ApiTok)] : List ApiTok)) ++ a1_) a2_ (fun r6 =>
                  styluslaw33_row.w r6 a1 (fun r7 =>
                    if r7 = true then
                      styluslaw33_awake.w  (fun r8 =>
                        Q r8)
                    else
                      Q false))) (r4, 0)))
theorem styluslaw33_SeekJoined.ok {a0_ : List ApiTok} {a1_ : List ApiTok} {a2_ : ByteArray} {Q : Bool → Prop} (hm : styluslaw33_SeekJoined.w a0_ a1_ a2_ Q) (h0 : Hp) : ACalls Try.prog n_styluslaw33_SeekJoined [(.isl 3 (a0_.map ApiTok.enc)), (.isl 3 (a1_.map ApiTok.enc)), (astr a2_)] h0 (Back h0 (fun r => (abool r)) Q) := by
  refine enter_styluslaw33_SeekJoined ?_
  unfold styluslaw33_SeekJoined.w at hm
  have H := AM.Own.nil h0
  simp (maxSteps := 4000000) -implicitDefEqProofs (disch := omega) only [push_cast, Nat.reduceAdd, Nat.reduceLeDiff, Nat.reduceMul, Nat.reduceSub, Nat.reduceLT, Nat.reduceEqDiff, Int.reduceAdd, Int.reduceSub, Int.reduceLE, Int.reduceLT, Int.reduceEq, Int.reduceNe, Int.reduceToNat, Int.reduceNeg, reduceIte, reduceCtorEq, ac_styluslaw33_SeekJoined]
  rw [gfork_cond']
  refine ⟨fun c1 => ?_, fun c1 => ?_⟩
  · replace hm := ifp hm c1
    simp (maxSteps := 4000000) -implicitDefEqProofs (disch := omega) only [push_cast, Nat.reduceAdd, Nat.reduceLeDiff, Nat.reduceMul, Nat.reduceSub, Nat.reduceLT, Nat.reduceEqDiff, Int.reduceAdd, Int.reduceSub, Int.reduceLE, Int.reduceLT, Int.reduceEq, Int.reduceNe, Int.reduceToNat, Int.reduceNeg, reduceIte, reduceCtorEq, eq_true c1]
    refine calls_w (fun h => styluslaw33_awake.ok hm h) (fun r1 hm => ?_)
    simp (maxSteps := 4000000) -implicitDefEqProofs (disch := omega) only [push_cast, Nat.reduceAdd, Nat.reduceLeDiff, Nat.reduceMul, Nat.reduceSub, Nat.reduceLT, Nat.reduceEqDiff, Int.reduceAdd, Int.reduceSub, Int.reduceLE, Int.reduceLT, Int.reduceEq, Int.reduceNe, Int.reduceToNat, Int.reduceNeg, reduceIte, reduceCtorEq, eq_true c1]
    exact retQ_back (.inl rfl) r1 _ rfl (Shift.refl _ _) H.sub hm
  · replace hm := ifn hm c1
    simp (maxSteps := 4000000) -implicitDefEqProofs (disch := omega) only [push_cast, Nat.reduceAdd, Nat.reduceLeDiff, Nat.reduceMul, Nat.reduceSub, Nat.reduceLT, Nat.reduceEqDiff, Int.reduceAdd, Int.reduceSub, Int.reduceLE, Int.reduceLT, Int.reduceEq, Int.reduceNe, Int.reduceToNat, Int.reduceNeg, reduceIte, reduceCtorEq, eq_false c1]
    rw [gfork_cond']
    refine ⟨fun c2 => ?_, fun c2 => ?_⟩
    · replace hm := ifp hm c2
      simp (maxSteps := 4000000) -implicitDefEqProofs (disch := omega) only [push_cast, Nat.reduceAdd, Nat.reduceLeDiff, Nat.reduceMul, Nat.reduceSub, Nat.reduceLT, Nat.reduceEqDiff, Int.reduceAdd, Int.reduceSub, Int.reduceLE, Int.reduceLT, Int.reduceEq, Int.reduceNe, Int.reduceToNat, Int.reduceNeg, reduceIte, reduceCtorEq, eq_false c1, eq_true c2]
      refine calls_w (fun h => styluslaw33_awake.ok hm h) (fun r2 hm => ?_)
      simp (maxSteps := 4000000) -implicitDefEqProofs (disch := omega) only [push_cast, Nat.reduceAdd, Nat.reduceLeDiff, Nat.reduceMul, Nat.reduceSub, Nat.reduceLT, Nat.reduceEqDiff, Int.reduceAdd, Int.reduceSub, Int.reduceLE, Int.reduceLT, Int.reduceEq, Int.reduceNe, Int.reduceToNat, Int.reduceNeg, reduceIte, reduceCtorEq, eq_false c1, eq_true c2]
      exact retQ_back (.inl rfl) r2 _ rfl (Shift.refl _ _) H.sub hm
    · replace hm := ifn hm c2
      simp (maxSteps := 4000000) -implicitDefEqProofs (disch := omega) only [push_cast, Nat.reduceAdd, Nat.reduceLeDiff, Nat.reduceMul, Nat.reduceSub, Nat.reduceLT, Nat.reduceEqDiff, Int.reduceAdd, Int.reduceSub, Int.reduceLE, Int.reduceLT, Int.reduceEq, Int.reduceNe, Int.reduceToNat, Int.reduceNeg, reduceIte, reduceCtorEq, eq_false c1, eq_false c2]
      rw [fork_cond]
      refine ⟨fun c3 => ?_, fun c3 => ?_⟩
      · replace hm := ifp hm c3
        simp (maxSteps := 4000000) -implicitDefEqProofs (disch := omega) only [push_cast, Nat.reduceAdd, Nat.reduceLeDiff, Nat.reduceMul, Nat.reduceSub, Nat.reduceLT, Nat.reduceEqDiff, Int.reduceAdd, Int.reduceSub, Int.reduceLE, Int.reduceLT, Int.reduceEq, Int.reduceNe, Int.reduceToNat, Int.reduceNeg, reduceIte, reduceCtorEq, eq_false c1, eq_false c2, eq_true c3]
        refine calls_w (fun h => styluslaw33_awake.ok hm h) (fun r3 hm => ?_)
        simp (maxSteps := 4000000) -implicitDefEqProofs (disch := omega) only [push_cast, Nat.reduceAdd, Nat.reduceLeDiff, Nat.reduceMul, Nat.reduceSub, Nat.reduceLT, Nat.reduceEqDiff, Int.reduceAdd, Int.reduceSub, Int.reduceLE, Int.reduceLT, Int.reduceEq, Int.reduceNe, Int.reduceToNat, Int.reduceNeg, reduceIte, reduceCtorEq, eq_false c1, eq_false c2, eq_true c3]
        exact retQ_back (.inl rfl) r3 _ rfl (Shift.refl _ _) H.sub hm
      · replace hm := ifn hm c3
        simp (maxSteps := 4000000) -implicitDefEqProofs (disch := omega) only [push_cast, Nat.reduceAdd, Nat.reduceLeDiff, Nat.reduceMul, Nat.reduceSub, Nat.reduceLT, Nat.reduceEqDiff, Int.reduceAdd, Int.reduceSub, Int.reduceLE, Int.reduceLT, Int.reduceEq, Int.reduceNe, Int.reduceToNat, Int.reduceNeg, reduceIte, reduceCtorEq, eq_false c1, eq_false c2, eq_false c3]
        refine H.newL (E := ApiTok.enc) ([] : List ApiTok) rfl rfl (fun b1 h1 H => ?_)
        simp (maxSteps := 4000000) -implicitDefEqProofs (disch := omega) only [push_cast, Nat.reduceAdd, Nat.reduceLeDiff, Nat.reduceMul, Nat.reduceSub, Nat.reduceLT, Nat.reduceEqDiff, Int.reduceAdd, Int.reduceSub, Int.reduceLE, Int.reduceLT, Int.reduceEq, Int.reduceNe, Int.reduceToNat, Int.reduceNeg, reduceIte, reduceCtorEq, eq_false c1, eq_false c2, eq_false c3]
        obtain ⟨w1, hm⟩ := hm
        refine H.appL (E := ApiTok.enc) 0 a0_ rfl rfl rfl (by decide) (by decide) w1 (fun x1 h2 H => ?_)
        replace H : AM.Own h0 h2 [⟨x1, false, 3, a0_.map ApiTok.enc, some (38, 0)⟩] := H
        simp (maxSteps := 4000000) -implicitDefEqProofs (disch := omega) only [push_cast, Nat.reduceAdd, Nat.reduceLeDiff, Nat.reduceMul, Nat.reduceSub, Nat.reduceLT, Nat.reduceEqDiff, Int.reduceAdd, Int.reduceSub, Int.reduceLE, Int.reduceLT, Int.reduceEq, Int.reduceNe, Int.reduceToNat, Int.reduceNeg, reduceIte, reduceCtorEq, eq_false c1, eq_false c2, eq_false c3]
        refine H.newL (E := ApiTok.enc) ([(⟨1, 32, 0⟩ : ApiTok)] : List ApiTok) rfl rfl (fun b2 h3 H => ?_)
        simp (maxSteps := 4000000) -implicitDefEqProofs (disch := omega) only [push_cast, Nat.reduceAdd, Nat.reduceLeDiff, Nat.reduceMul, Nat.reduceSub, Nat.reduceLT, Nat.reduceEqDiff, Int.reduceAdd, Int.reduceSub, Int.reduceLE, Int.reduceLT, Int.reduceEq, Int.reduceNe, Int.reduceToNat, Int.reduceNeg, reduceIte, reduceCtorEq, eq_false c1, eq_false c2, eq_false c3, H.src (e := 38) 1 rfl]
        obtain ⟨w2, hm⟩ := hm
        refine H.appL (E := ApiTok.enc) 0 ([(⟨1, 32, 0⟩ : ApiTok)] : List ApiTok) rfl rfl rfl (by decide) (by decide) w2 (fun x2 h4 H => ?_)
        simp (maxSteps := 4000000) -implicitDefEqProofs (disch := omega) only [push_cast, Nat.reduceAdd, Nat.reduceLeDiff, Nat.reduceMul, Nat.reduceSub, Nat.reduceLT, Nat.reduceEqDiff, Int.reduceAdd, Int.reduceSub, Int.reduceLE, Int.reduceLT, Int.reduceEq, Int.reduceNe, Int.reduceToNat, Int.reduceNeg, reduceIte, reduceCtorEq, eq_false c1, eq_false c2, eq_false c3]
        obtain ⟨w3, hm⟩ := hm
        refine H.appL (E := ApiTok.enc) 0 a1_ rfl rfl rfl (by decide) (by decide) w3 (fun x3 h5 H => ?_)
        simp (maxSteps := 4000000) -implicitDefEqProofs (disch := omega) only [push_cast, Nat.reduceAdd, Nat.reduceLeDiff, Nat.reduceMul, Nat.reduceSub, Nat.reduceLT, Nat.reduceEqDiff, Int.reduceAdd, Int.reduceSub, Int.reduceLE, Int.reduceLT, Int.reduceEq, Int.reduceNe, Int.reduceToNat, Int.reduceNeg, reduceIte, reduceCtorEq, eq_false c1, eq_false c2, eq_false c3]
        refine H.newL (E := encInt) ([] : List Int) rfl rfl (fun b3 h6 H => ?_)
        simp (maxSteps := 4000000) -implicitDefEqProofs (disch := omega) only [push_cast, Nat.reduceAdd, Nat.reduceLeDiff, Nat.reduceMul, Nat.reduceSub, Nat.reduceLT, Nat.reduceEqDiff, Int.reduceAdd, Int.reduceSub, Int.reduceLE, Int.reduceLT, Int.reduceEq, Int.reduceNe, Int.reduceToNat, Int.reduceNeg, reduceIte, reduceCtorEq, eq_false c1, eq_false c2, eq_false c3]
        refine calls_w (fun h => seek_At.ok hm h) (fun r4 hm => ?_)
        simp (maxSteps := 4000000) -implicitDefEqProofs (disch := omega) only [push_cast, Nat.reduceAdd, Nat.reduceLeDiff, Nat.reduceMul, Nat.reduceSub, Nat.reduceLT, Nat.reduceEqDiff, Int.reduceAdd, Int.reduceSub, Int.reduceLE, Int.reduceLT, Int.reduceEq, Int.reduceNe, Int.reduceToNat, Int.reduceNeg, reduceIte, reduceCtorEq, eq_false c1, eq_false c2, eq_false c3]
        obtain ⟨w4, hm⟩ := hm
        refine H.appL (E := encInt) 2 r4 rfl rfl rfl (by decide) (by decide) w4 (fun x4 h7 H => ?_)
        replace H : AM.Own h0 h7 [⟨x3, false, 3, ((a0_ ++ ([(⟨1, 32, 0⟩ : ApiTok)] : List ApiTok)) ++ a1_).map ApiTok.enc, some (38, 0)⟩, ⟨(.osl b2 3 0 1), false, 3, ([(⟨1, 32, 0⟩ : ApiTok)] : List ApiTok).map ApiTok.enc, some (38, 0)⟩, ⟨x4, false, 1, r4.map encInt, some (3, 0)⟩] := H
        simp (maxSteps := 4000000) -implicitDefEqProofs (disch := omega) only [push_cast, Nat.reduceAdd, Nat.reduceLeDiff, Nat.reduceMul, Nat.reduceSub, Nat.reduceLT, Nat.reduceEqDiff, Int.reduceAdd, Int.reduceSub, Int.reduceLE, Int.reduceLT, Int.reduceEq, Int.reduceNe, Int.reduceToNat, Int.reduceNeg, reduceIte, reduceCtorEq, eq_false c1, eq_false c2, eq_false c3]
        refine calls_w (fun h => seek_At.ok hm h) (fun r5 hm => ?_)
        simp (maxSteps := 4000000) -implicitDefEqProofs (disch := omega) only [push_cast, Nat.reduceAdd, Nat.reduceLeDiff, Nat.reduceMul, Nat.reduceSub, Nat.reduceLT, Nat.reduceEqDiff, Int.reduceAdd, Int.reduceSub, Int.reduceLE, Int.reduceLT, Int.reduceEq, Int.reduceNe, Int.reduceToNat, Int.reduceNeg, reduceIte, reduceCtorEq, eq_false c1, eq_false c2, eq_false c3]
        obtain ⟨inv1, mu1, hi1, hs1⟩ := hm
        replace H := H.perm [0, 2] (by decide)
        refine awp_loop (σ := ((List Int) × Int) × AV × Hp) (fun ⟨⟨a1, a2⟩, x5, h8⟩ => ⟨((((((List.replicate 67 AV.any).set 0 (.isl 3 (a0_.map ApiTok.enc))).set 2 (astr a2_)).set 7 x3).set 8 x5).set 9 (.isl 1 (r5.map encInt))).set 10 (aint a2), h8⟩) (fun ⟨⟨a1, a2⟩, x5, h8⟩ => inv1 (a1, a2) ∧ AM.Own h0 h8 [⟨x3, false, 3, ((a0_ ++ ([(⟨1, 32, 0⟩ : ApiTok)] : List ApiTok)) ++ a1_).map ApiTok.enc, some (38, 0)⟩, ⟨x5, false, 1, a1.map encInt, some (3, 0)⟩]) (fun ⟨⟨a1, a2⟩, x5, h8⟩ => mu1 (a1, a2)) ⟨(r4, 0), x4, h7⟩ (Retell.weak (by simp [Weak, push_cast]) (Hp.sub.refl _)) ⟨hi1, H⟩ ?_
        rintro ⟨⟨a1, a2⟩, x5, h8⟩ ⟨hi1, H⟩
        have hm := hs1 _ hi1
        dsimp only at hm H ⊢
        simp (maxSteps := 4000000) -implicitDefEqProofs (disch := omega) only [push_cast, Nat.reduceAdd, Nat.reduceLeDiff, Nat.reduceMul, Nat.reduceSub, Nat.reduceLT, Nat.reduceEqDiff, Int.reduceAdd, Int.reduceSub, Int.reduceLE, Int.reduceLT, Int.reduceEq, Int.reduceNe, Int.reduceToNat, Int.reduceNeg, reduceIte, reduceCtorEq, eq_false c1, eq_false c2, eq_false c3]
        rw [fork_cond]
        refine ⟨fun c4 => ?_, fun c4 => ?_⟩
        · replace hm := ifp hm c4
          obtain ⟨z1, hm⟩ := hm
          obtain ⟨v1, i1, hm⟩ := hm
          obtain ⟨w5, hm⟩ := hm
          obtain ⟨w6, hm⟩ := hm
          simp (maxSteps := 4000000) -implicitDefEqProofs (disch := omega) only [push_cast, Nat.reduceAdd, Nat.reduceLeDiff, Nat.reduceMul, Nat.reduceSub, Nat.reduceLT, Nat.reduceEqDiff, Int.reduceAdd, Int.reduceSub, Int.reduceLE, Int.reduceLT, Int.reduceEq, Int.reduceNe, Int.reduceToNat, Int.reduceNeg, reduceIte, reduceCtorEq, eq_false c1, eq_false c2, eq_false c3, eq_true c4, eq_true z1, i1, wrap_i64 _ w5, wrap_i64 _ w6]
          refine H.newL (E := encInt) ([(v1 + (a0_.length : Int)) + 1] : List Int) rfl rfl (fun b4 h9 H => ?_)
          simp (maxSteps := 4000000) -implicitDefEqProofs (disch := omega) only [push_cast, Nat.reduceAdd, Nat.reduceLeDiff, Nat.reduceMul, Nat.reduceSub, Nat.reduceLT, Nat.reduceEqDiff, Int.reduceAdd, Int.reduceSub, Int.reduceLE, Int.reduceLT, Int.reduceEq, Int.reduceNe, Int.reduceToNat, Int.reduceNeg, reduceIte, reduceCtorEq, eq_false c1, eq_false c2, eq_false c3, eq_true c4, eq_true z1, i1, wrap_i64 _ w5, wrap_i64 _ w6, H.src (e := 3) 2 rfl]
          obtain ⟨w7, hm⟩ := hm
          refine H.appL (E := encInt) 1 ([(v1 + (a0_.length : Int)) + 1] : List Int) rfl rfl rfl (by decide) (by decide) w7 (fun x6 h10 H => ?_)
          obtain ⟨w8, hm⟩ := hm
          simp (maxSteps := 4000000) -implicitDefEqProofs (disch := omega) only [push_cast, Nat.reduceAdd, Nat.reduceLeDiff, Nat.reduceMul, Nat.reduceSub, Nat.reduceLT, Nat.reduceEqDiff, Int.reduceAdd, Int.reduceSub, Int.reduceLE, Int.reduceLT, Int.reduceEq, Int.reduceNe, Int.reduceToNat, Int.reduceNeg, reduceIte, reduceCtorEq, eq_false c1, eq_false c2, eq_false c3, eq_true c4, eq_true z1, i1, wrap_i64 _ w5, wrap_i64 _ w6, wrap_i64 _ w8]
          replace H := H.perm [0, 1] (by decide)
          exact ⟨⟨(a1 ++ ([(v1 + (a0_.length : Int)) + 1] : List Int), a2 + 1), x6, h10⟩, hm.2, ⟨hm.1, H⟩, Retell.weak (by simp [Weak, push_cast]) (Hp.sub.refl _)⟩
        · replace hm := ifn hm c4
          simp (maxSteps := 4000000) -implicitDefEqProofs (disch := omega) only [push_cast, Nat.reduceAdd, Nat.reduceLeDiff, Nat.reduceMul, Nat.reduceSub, Nat.reduceLT, Nat.reduceEqDiff, Int.reduceAdd, Int.reduceSub, Int.reduceLE, Int.reduceLT, Int.reduceEq, Int.reduceNe, Int.reduceToNat, Int.reduceNeg, reduceIte, reduceCtorEq, eq_false c1, eq_false c2, eq_false c3, eq_false c4]
          obtain ⟨h11, s1, H⟩ := H.freeze 0 rfl
          replace H : AM.Own h0 h11 [dead, ⟨x5, false, 1, a1.map encInt, some (3, 0)⟩] := H
          refine calls_fw (Shifts.at s1 [] [_]) (fun h => seek_At.ok hm h) (fun r6 hm => ?_)
          simp (maxSteps := 4000000) -implicitDefEqProofs (disch := omega) only [push_cast, Nat.reduceAdd, Nat.reduceLeDiff, Nat.reduceMul, Nat.reduceSub, Nat.reduceLT, Nat.reduceEqDiff, Int.reduceAdd, Int.reduceSub, Int.reduceLE, Int.reduceLT, Int.reduceEq, Int.reduceNe, Int.reduceToNat, Int.reduceNeg, reduceIte, reduceCtorEq, eq_false c1, eq_false c2, eq_false c3, eq_false c4]
          refine calls_lw (fun h => styluslaw33_row.ok hm h) (fun _ => rfl) ⟨Lent.refl _ _, H.lent 1 rfl, trivial⟩ (fun r7 hm => ?_)
          simp (maxSteps := 4000000) -implicitDefEqProofs (disch := omega) only [push_cast, Nat.reduceAdd, Nat.reduceLeDiff, Nat.reduceMul, Nat.reduceSub, Nat.reduceLT, Nat.reduceEqDiff, Int.reduceAdd, Int.reduceSub, Int.reduceLE, Int.reduceLT, Int.reduceEq, Int.reduceNe, Int.reduceToNat, Int.reduceNeg, reduceIte, reduceCtorEq, eq_false c1, eq_false c2, eq_false c3, eq_false c4]
          rw [gfork_bool]
          refine ⟨fun c5 => ?_, fun c5 => ?_⟩
          · replace hm := ifp hm c5
            simp (maxSteps := 4000000) -implicitDefEqProofs (disch := omega) only [push_cast, Nat.reduceAdd, Nat.reduceLeDiff, Nat.reduceMul, Nat.reduceSub, Nat.reduceLT, Nat.reduceEqDiff, Int.reduceAdd, Int.reduceSub, Int.reduceLE, Int.reduceLT, Int.reduceEq, Int.reduceNe, Int.reduceToNat, Int.reduceNeg, reduceIte, reduceCtorEq, eq_false c1, eq_false c2, eq_false c3, eq_false c4, c5]
            refine calls_w (fun h => styluslaw33_awake.ok hm h) (fun r8 hm => ?_)
            simp (maxSteps := 4000000) -implicitDefEqProofs (disch := omega) only [push_cast, Nat.reduceAdd, Nat.reduceLeDiff, Nat.reduceMul, Nat.reduceSub, Nat.reduceLT, Nat.reduceEqDiff, Int.reduceAdd, Int.reduceSub, Int.reduceLE, Int.reduceLT, Int.reduceEq, Int.reduceNe, Int.reduceToNat, Int.reduceNeg, reduceIte, reduceCtorEq, eq_false c1, eq_false c2, eq_false c3, eq_false c4, c5]
            exact retQ_back (.inl rfl) r8 _ rfl (Shift.refl _ _) H.sub hm
          · replace hm := ifn hm (by rw [c5]; exact Bool.false_ne_true)
            simp (maxSteps := 4000000) -implicitDefEqProofs (disch := omega) only [push_cast, Nat.reduceAdd, Nat.reduceLeDiff, Nat.reduceMul, Nat.reduceSub, Nat.reduceLT, Nat.reduceEqDiff, Int.reduceAdd, Int.reduceSub, Int.reduceLE, Int.reduceLT, Int.reduceEq, Int.reduceNe, Int.reduceToNat, Int.reduceNeg, reduceIte, reduceCtorEq, eq_false c1, eq_false c2, eq_false c3, eq_false c4, c5]
            exact retQ_back (.inl rfl) false _ rfl (Shift.refl _ _) H.sub hm
/-! stylus/stylusref01.Marks -/
abbrev n_stylusref01_Marks : Nat := 48
noncomputable def code_stylusref01_Marks : Code := match Try.f48.body with | some c => c | none => .skip
def ann_stylusref01_Marks : Nat → Ann
  | _ => {}
noncomputable def ac_stylusref01_Marks : AC :=
  (.seq (.reg [⟨some 0, (Op.assign (Operand.const (Value.string (ByteArray.mk #[])))), none, false⟩]) (.seq (.reg [⟨some 0, (Op.assign (Operand.const (Value.string (ByteArray.mk #[46, 44, 59, 58, 33, 63, 39, 34, 45, 40, 41, 47])))), none, false⟩]) .ret))
theorem body_stylusref01_Marks : Try.f48.body = some code_stylusref01_Marks := by kernel_rfl
theorem slim_stylusref01_Marks : slim ann_stylusref01_Marks code_stylusref01_Marks = some ac_stylusref01_Marks := by kernel_rfl
theorem name_stylusref01_Marks : (Try.f48.name == "runtime.NumGoroutine") = false := by kernel_rfl
theorem enter_stylusref01_Marks {args : List AV} {h : Hp} {Q : AE → Hp → Prop} (H : awp Try.prog tab ac_stylusref01_Marks (retQ tab [(ResultVar.tmp 0)] Q) ⟨args ++ List.replicate (1 - args.length) .any, h⟩) : ACalls Try.prog 48 args h Q :=
  acalls_of tab_ok mixed Try.func48 body_stylusref01_Marks name_stylusref01_Marks slim_stylusref01_Marks rfl Try.ntmps48 H
/-- stylus/stylusref01.Marks -/
def stylusref01_Marks.w (Q : ByteArray → Prop) : Prop :=
  Q (ByteArray.mk #[46, 44, 59, 58, 33, 63, 39, 34, 45, 40, 41, 47])
theorem stylusref01_Marks.ok {Q : ByteArray → Prop} (hm : stylusref01_Marks.w Q) (h0 : Hp) : ACalls Try.prog n_stylusref01_Marks [] h0 (Back h0 (fun r => (astr r)) Q) := by
  refine enter_stylusref01_Marks ?_
  unfold stylusref01_Marks.w at hm
  have H := AM.Own.nil h0
  simp (maxSteps := 4000000) -implicitDefEqProofs (disch := omega) only [push_cast, Nat.reduceAdd, Nat.reduceLeDiff, Nat.reduceMul, Nat.reduceSub, Nat.reduceLT, Nat.reduceEqDiff, Int.reduceAdd, Int.reduceSub, Int.reduceLE, Int.reduceLT, Int.reduceEq, Int.reduceNe, Int.reduceToNat, Int.reduceNeg, reduceIte, reduceCtorEq, ac_stylusref01_Marks]
  exact retQ_back (.inl rfl) (ByteArray.mk #[46, 44, 59, 58, 33, 63, 39, 34, 45, 40, 41, 47]) _ rfl (Shift.refl _ _) H.sub hm
/-! stylus/stylusref01.Class -/
abbrev n_stylusref01_Class : Nat := 34
noncomputable def code_stylusref01_Class : Code := match Try.f34.body with | some c => c | none => .skip
def ann_stylusref01_Class : Nat → Ann
  | _ => {}
noncomputable def ac_stylusref01_Class_c3 : AC :=
  (.seq (.seq (.reg [⟨some 17, (Op.move (Operand.tmp 0)), none, false⟩, ⟨some 18, (Op.binOp BinOp.geq 5 (Operand.tmp 17) (Operand.const (Value.int IntKind.u8 48)) 5), none, false⟩, ⟨some 19, (Op.move (Operand.tmp 18)), none, false⟩, ⟨some 20, (Op.move (Operand.tmp 0)), (some (some 19, true)), false⟩, ⟨some 21, (Op.binOp BinOp.leq 5 (Operand.tmp 20) (Operand.const (Value.int IntKind.u8 57)) 5), (some (some 19, true)), false⟩, ⟨some 22, (Op.pick (Operand.tmp 19) (Operand.tmp 21) (Operand.const (Value.bool false))), none, false⟩]) (.cond (Operand.tmp 22) (.seq (.reg [⟨some 2, (Op.assign (Operand.const (Value.int IntKind.i64 3))), none, false⟩]) .ret) .skip)) (.seq (.seq (.reg [⟨some 23, (Op.move (Operand.tmp 0)), none, false⟩, ⟨some 24, (Op.binOp BinOp.eql 5 (Operand.tmp 23) (Operand.const (Value.int IntKind.u8 32)) 5), none, false⟩]) (.cond (Operand.tmp 24) (.seq (.reg [⟨some 2, (Op.assign (Operand.const (Value.int IntKind.i64 5))), none, false⟩]) .ret) .skip)) (.seq (.seq (.reg [⟨some 25, (Op.move (Operand.tmp 0)), none, false⟩, ⟨some 26, (Op.binOp BinOp.eql 5 (Operand.tmp 25) (Operand.const (Value.int IntKind.u8 10)) 5), none, false⟩]) (.cond (Operand.tmp 26) (.seq (.reg [⟨some 2, (Op.assign (Operand.const (Value.int IntKind.i64 6))), none, false⟩]) .ret) .skip)) (.seq (.reg [⟨some 27, (Op.call (Call.mk (Callee.value (Operand.func 48)) #[] #[])), none, false⟩, ⟨some 3, (Op.assign (Operand.tmp 27)), none, false⟩]) (.seq (.seq (.reg [⟨some 4, (Op.assign (Operand.const (Value.int IntKind.i64 0))), none, false⟩]) (.block 0 (.loop (.seq (.seq (.reg [⟨some 28, (Op.move (Operand.tmp 4)), none, false⟩, ⟨some 29, (Op.move (Operand.tmp 3)), none, false⟩, ⟨some 30, (Op.call (Call.mk (Callee.builtin Builtin.len) #[(Operand.tmp 29)] #[9])), none, false⟩, ⟨some 31, (Op.binOp BinOp.lss 3 (Operand.tmp 28) (Operand.tmp 30) 3), none, false⟩]) (.cond (Operand.tmp 31) .skip (.exit 0))) (.seq (.block 1 (.seq (.reg [⟨some 34, (Op.move (Operand.tmp 3)), none, false⟩, ⟨some 35, (Op.move (Operand.tmp 4)), none, false⟩, ⟨some 36, (Op.index 9 (Operand.tmp 34) (Operand.tmp 35)), none, false⟩, ⟨some 37, (Op.move (Operand.tmp 0)), none, false⟩, ⟨some 38, (Op.binOp BinOp.eql 5 (Operand.tmp 36) (Operand.tmp 37) 5), none, false⟩]) (.cond (Operand.tmp 38) (.seq (.reg [⟨some 2, (Op.assign (Operand.const (Value.int IntKind.i64 4))), none, false⟩]) .ret) .skip))) (.reg [⟨some 32, (Op.move (Operand.tmp 4)), none, false⟩, ⟨some 33, (Op.binOp BinOp.add 3 (Operand.tmp 32) (Operand.const (Value.int IntKind.i64 1)) 3), none, false⟩, ⟨some 4, (Op.assign (Operand.tmp 33)), none, false⟩])))))) (.seq (.reg [⟨some 2, (Op.assign (Operand.const (Value.int IntKind.i64 0))), none, false⟩]) .ret))))))
noncomputable def ac_stylusref01_Class_c2 : AC :=
  (.seq (.seq (.reg [⟨some 11, (Op.move (Operand.tmp 0)), none, false⟩, ⟨some 12, (Op.binOp BinOp.geq 5 (Operand.tmp 11) (Operand.const (Value.int IntKind.u8 65)) 5), none, false⟩, ⟨some 13, (Op.move (Operand.tmp 12)), none, false⟩, ⟨some 14, (Op.move (Operand.tmp 0)), (some (some 13, true)), false⟩, ⟨some 15, (Op.binOp BinOp.leq 5 (Operand.tmp 14) (Operand.const (Value.int IntKind.u8 90)) 5), (some (some 13, true)), false⟩, ⟨some 16, (Op.pick (Operand.tmp 13) (Operand.tmp 15) (Operand.const (Value.bool false))), none, false⟩]) (.cond (Operand.tmp 16) (.seq (.reg [⟨some 2, (Op.assign (Operand.const (Value.int IntKind.i64 2))), none, false⟩]) .ret) .skip)) ac_stylusref01_Class_c3)
noncomputable def ac_stylusref01_Class_c1 : AC :=
  (.seq (.seq (.reg [⟨some 5, (Op.move (Operand.tmp 0)), none, false⟩, ⟨some 6, (Op.binOp BinOp.geq 5 (Operand.tmp 5) (Operand.const (Value.int IntKind.u8 97)) 5), none, false⟩, ⟨some 7, (Op.move (Operand.tmp 6)), none, false⟩, ⟨some 8, (Op.move (Operand.tmp 0)), (some (some 7, true)), false⟩, ⟨some 9, (Op.binOp BinOp.leq 5 (Operand.tmp 8) (Operand.const (Value.int IntKind.u8 122)) 5), (some (some 7, true)), false⟩, ⟨some 10, (Op.pick (Operand.tmp 7) (Operand.tmp 9) (Operand.const (Value.bool false))), none, false⟩]) (.cond (Operand.tmp 10) (.seq (.reg [⟨some 2, (Op.assign (Operand.const (Value.int IntKind.i64 1))), none, false⟩]) .ret) .skip)) ac_stylusref01_Class_c2)
noncomputable def ac_stylusref01_Class : AC :=
  (.seq (.reg [⟨some 2, (Op.assign (Operand.const (Value.int IntKind.i64 0))), none, false⟩]) ac_stylusref01_Class_c1)
theorem body_stylusref01_Class : Try.f34.body = some code_stylusref01_Class := by kernel_rfl
theorem slim_stylusref01_Class : slim ann_stylusref01_Class code_stylusref01_Class = some ac_stylusref01_Class := by kernel_rfl
theorem name_stylusref01_Class : (Try.f34.name == "runtime.NumGoroutine") = false := by kernel_rfl
theorem enter_stylusref01_Class {args : List AV} {h : Hp} {Q : AE → Hp → Prop} (H : awp Try.prog tab ac_stylusref01_Class (retQ tab [(ResultVar.tmp 2)] Q) ⟨args ++ List.replicate (39 - args.length) .any, h⟩) : ACalls Try.prog 34 args h Q :=
  acalls_of tab_ok mixed Try.func34 body_stylusref01_Class name_stylusref01_Class slim_stylusref01_Class rfl Try.ntmps34 H
/-- stylus/stylusref01.Class -/
def stylusref01_Class.w (a0_ : Int) (Q : Int → Prop) : Prop :=
  wcut (α := Unit) (fun k1 =>
    if 97 ≤ a0_ then
      if a0_ ≤ 122 then
        Q 1
      else
        k1 ()
    else
      k1 ()) (fun _ =>
    wcut (α := Unit) (fun k2 =>
      if 65 ≤ a0_ then
        if a0_ ≤ 90 then
          Q 2
        else
          k2 ()
      else
        k2 ()) (fun _ =>
      wcut (α := Unit) (fun k3 =>
        if 48 ≤ a0_ then
          if a0_ ≤ 57 then
            Q 3
          else
            k3 ()
        else
          k3 ()) (fun _ =>
        if a0_ = 32 then
          Q 5
        else
          if a0_ = 10 then
            Q 6
          else
            stylusref01_Marks.w  (fun r1 =>
              wloop (σ := Int) (fun a1 next1 =>
                if a1 < (r1.size : Int) then
                  (0 ≤ a1) ∧
                  ∃ v1 : UInt8, r1[a1.toNat]? = some v1 ∧
                  if (v1.toNat : Int) = a0_ then
                    Q 4
                  else
                    (I64 (a1 + 1)) ∧
                    next1 (a1 + 1)
                else
                  Q 0) 0))))
theorem stylusref01_Class.ok {a0_ : Int} {Q : Int → Prop} (hm : stylusref01_Class.w a0_ Q) (h0 : Hp) : ACalls Try.prog n_stylusref01_Class [(.val (.int .u8 a0_))] h0 (Back h0 (fun r => (aint r)) Q) := by
  refine enter_stylusref01_Class ?_
  unfold stylusref01_Class.w at hm
  have H := AM.Own.nil h0
  simp (maxSteps := 4000000) -implicitDefEqProofs (disch := omega) only [push_cast, Nat.reduceAdd, Nat.reduceLeDiff, Nat.reduceMul, Nat.reduceSub, Nat.reduceLT, Nat.reduceEqDiff, Int.reduceAdd, Int.reduceSub, Int.reduceLE, Int.reduceLT, Int.reduceEq, Int.reduceNe, Int.reduceToNat, Int.reduceNeg, reduceIte, reduceCtorEq, ac_stylusref01_Class]
  obtain ⟨k1, hm, hk1⟩ := wcut_elim hm
  refine awp_cut (fun s' => ∃ (h1 : Hp), Like s'.tm ((List.replicate 39 none).set 0 (some (.val (.int .u8 a0_)))) ∧ s'.h = h1 ∧ AM.Own h0 h1 [] ∧ k1 ()) ?_ ?_
  · simp (maxSteps := 4000000) -implicitDefEqProofs (disch := omega) only [push_cast, Nat.reduceAdd, Nat.reduceLeDiff, Nat.reduceMul, Nat.reduceSub, Nat.reduceLT, Nat.reduceEqDiff, Int.reduceAdd, Int.reduceSub, Int.reduceLE, Int.reduceLT, Int.reduceEq, Int.reduceNe, Int.reduceToNat, Int.reduceNeg, reduceIte, reduceCtorEq]
    rw [gfork_cond]
    refine ⟨fun c1 => ?_, fun c1 => ?_⟩
    · replace hm := ifp hm c1
      simp (maxSteps := 4000000) -implicitDefEqProofs (disch := omega) only [push_cast, Nat.reduceAdd, Nat.reduceLeDiff, Nat.reduceMul, Nat.reduceSub, Nat.reduceLT, Nat.reduceEqDiff, Int.reduceAdd, Int.reduceSub, Int.reduceLE, Int.reduceLT, Int.reduceEq, Int.reduceNe, Int.reduceToNat, Int.reduceNeg, reduceIte, reduceCtorEq, eq_true c1]
      rw [fork_cond]
      refine ⟨fun c2 => ?_, fun c2 => ?_⟩
      · replace hm := ifp hm c2
        simp (maxSteps := 4000000) -implicitDefEqProofs (disch := omega) only [push_cast, Nat.reduceAdd, Nat.reduceLeDiff, Nat.reduceMul, Nat.reduceSub, Nat.reduceLT, Nat.reduceEqDiff, Int.reduceAdd, Int.reduceSub, Int.reduceLE, Int.reduceLT, Int.reduceEq, Int.reduceNe, Int.reduceToNat, Int.reduceNeg, reduceIte, reduceCtorEq, eq_true c1, eq_true c2]
        exact retQ_back (.inl rfl) 1 _ rfl (Shift.refl _ _) H.sub hm
      · replace hm := ifn hm c2
        simp (maxSteps := 4000000) -implicitDefEqProofs (disch := omega) only [push_cast, Nat.reduceAdd, Nat.reduceLeDiff, Nat.reduceMul, Nat.reduceSub, Nat.reduceLT, Nat.reduceEqDiff, Int.reduceAdd, Int.reduceSub, Int.reduceLE, Int.reduceLT, Int.reduceEq, Int.reduceNe, Int.reduceToNat, Int.reduceNeg, reduceIte, reduceCtorEq, eq_true c1, eq_false c2]
        replace H := H.perm [] (by decide)
        exact ⟨h0, by simp [Like, push_cast], rfl, H, hm⟩
    · replace hm := ifn hm c1
      simp (maxSteps := 4000000) -implicitDefEqProofs (disch := omega) only [push_cast, Nat.reduceAdd, Nat.reduceLeDiff, Nat.reduceMul, Nat.reduceSub, Nat.reduceLT, Nat.reduceEqDiff, Int.reduceAdd, Int.reduceSub, Int.reduceLE, Int.reduceLT, Int.reduceEq, Int.reduceNe, Int.reduceToNat, Int.reduceNeg, reduceIte, reduceCtorEq, eq_false c1]
      replace H := H.perm [] (by decide)
      exact ⟨h0, by simp [Like, push_cast], rfl, H, hm⟩
  · rintro ⟨tm, h1⟩ ⟨_, hL, rfl, H, hm⟩
    dsimp only at hL H
    obtain ⟨D, rfl⟩ := hL.fill 0
    replace hm := hk1 _ hm
    simp (maxSteps := 4000000) -implicitDefEqProofs (disch := omega) only [push_cast, Nat.reduceAdd, Nat.reduceLeDiff, Nat.reduceMul, Nat.reduceSub, Nat.reduceLT, Nat.reduceEqDiff, Int.reduceAdd, Int.reduceSub, Int.reduceLE, Int.reduceLT, Int.reduceEq, Int.reduceNe, Int.reduceToNat, Int.reduceNeg, reduceIte, reduceCtorEq]
    obtain ⟨k2, hm, hk2⟩ := wcut_elim hm
    refine awp_cut (fun s' => ∃ (h2 : Hp), Like s'.tm ((List.replicate 39 none).set 0 (some (.val (.int .u8 a0_)))) ∧ s'.h = h2 ∧ AM.Own h0 h2 [] ∧ k2 ()) ?_ ?_
    · simp (maxSteps := 4000000) -implicitDefEqProofs (disch := omega) only [push_cast, Nat.reduceAdd, Nat.reduceLeDiff, Nat.reduceMul, Nat.reduceSub, Nat.reduceLT, Nat.reduceEqDiff, Int.reduceAdd, Int.reduceSub, Int.reduceLE, Int.reduceLT, Int.reduceEq, Int.reduceNe, Int.reduceToNat, Int.reduceNeg, reduceIte, reduceCtorEq]
      rw [gfork_cond]
      refine ⟨fun c3 => ?_, fun c3 => ?_⟩
      · replace hm := ifp hm c3
        simp (maxSteps := 4000000) -implicitDefEqProofs (disch := omega) only [push_cast, Nat.reduceAdd, Nat.reduceLeDiff, Nat.reduceMul, Nat.reduceSub, Nat.reduceLT, Nat.reduceEqDiff, Int.reduceAdd, Int.reduceSub, Int.reduceLE, Int.reduceLT, Int.reduceEq, Int.reduceNe, Int.reduceToNat, Int.reduceNeg, reduceIte, reduceCtorEq, eq_true c3]
        rw [fork_cond]
        refine ⟨fun c4 => ?_, fun c4 => ?_⟩
        · replace hm := ifp hm c4
          simp (maxSteps := 4000000) -implicitDefEqProofs (disch := omega) only [push_cast, Nat.reduceAdd, Nat.reduceLeDiff, Nat.reduceMul, Nat.reduceSub, Nat.reduceLT, Nat.reduceEqDiff, Int.reduceAdd, Int.reduceSub, Int.reduceLE, Int.reduceLT, Int.reduceEq, Int.reduceNe, Int.reduceToNat, Int.reduceNeg, reduceIte, reduceCtorEq, eq_true c3, eq_true c4]
          exact retQ_back (.inl rfl) 2 _ rfl (Shift.refl _ _) H.sub hm
        · replace hm := ifn hm c4
          simp (maxSteps := 4000000) -implicitDefEqProofs (disch := omega) only [push_cast, Nat.reduceAdd, Nat.reduceLeDiff, Nat.reduceMul, Nat.reduceSub, Nat.reduceLT, Nat.reduceEqDiff, Int.reduceAdd, Int.reduceSub, Int.reduceLE, Int.reduceLT, Int.reduceEq, Int.reduceNe, Int.reduceToNat, Int.reduceNeg, reduceIte, reduceCtorEq, eq_true c3, eq_false c4]
          replace H := H.perm [] (by decide)
          exact ⟨h1, by simp [Like, push_cast], rfl, H, hm⟩
      · replace hm := ifn hm c3
        simp (maxSteps := 4000000) -implicitDefEqProofs (disch := omega) only [push_cast, Nat.reduceAdd, Nat.reduceLeDiff, Nat.reduceMul, Nat.reduceSub, Nat.reduceLT, Nat.reduceEqDiff, Int.reduceAdd, Int.reduceSub, Int.reduceLE, Int.reduceLT, Int.reduceEq, Int.reduceNe, Int.reduceToNat, Int.reduceNeg, reduceIte, reduceCtorEq, eq_false c3]
        replace H := H.perm [] (by decide)
        exact ⟨h1, by simp [Like, push_cast], rfl, H, hm⟩
    · rintro ⟨tm, h2⟩ ⟨_, hL, rfl, H, hm⟩
      dsimp only at hL H
      obtain ⟨D, rfl⟩ := hL.fill 0
      replace hm := hk2 _ hm
      simp (maxSteps := 4000000) -implicitDefEqProofs (disch := omega) only [push_cast, Nat.reduceAdd, Nat.reduceLeDiff, Nat.reduceMul, Nat.reduceSub, Nat.reduceLT, Nat.reduceEqDiff, Int.reduceAdd, Int.reduceSub, Int.reduceLE, Int.reduceLT, Int.reduceEq, Int.reduceNe, Int.reduceToNat, Int.reduceNeg, reduceIte, reduceCtorEq]
      obtain ⟨k3, hm, hk3⟩ := wcut_elim hm
      refine awp_cut (fun s' => ∃ (h3 : Hp), Like s'.tm ((List.replicate 39 none).set 0 (some (.val (.int .u8 a0_)))) ∧ s'.h = h3 ∧ AM.Own h0 h3 [] ∧ k3 ()) ?_ ?_
      · simp (maxSteps := 4000000) -implicitDefEqProofs (disch := omega) only [push_cast, Nat.reduceAdd, Nat.reduceLeDiff, Nat.reduceMul, Nat.reduceSub, Nat.reduceLT, Nat.reduceEqDiff, Int.reduceAdd, Int.reduceSub, Int.reduceLE, Int.reduceLT, Int.reduceEq, Int.reduceNe, Int.reduceToNat, Int.reduceNeg, reduceIte, reduceCtorEq]
        rw [gfork_cond]
        refine ⟨fun c5 => ?_, fun c5 => ?_⟩
        · replace hm := ifp hm c5
          simp (maxSteps := 4000000) -implicitDefEqProofs (disch := omega) only [push_cast, Nat.reduceAdd, Nat.reduceLeDiff, Nat.reduceMul, Nat.reduceSub, Nat.reduceLT, Nat.reduceEqDiff, Int.reduceAdd, Int.reduceSub, Int.reduceLE, Int.reduceLT, Int.reduceEq, Int.reduceNe, Int.reduceToNat, Int.reduceNeg, reduceIte, reduceCtorEq, eq_true c5]
          rw [fork_cond]
          refine ⟨fun c6 => ?_, fun c6 => ?_⟩
          · replace hm := ifp hm c6
            simp (maxSteps := 4000000) -implicitDefEqProofs (disch := omega) only [push_cast, Nat.reduceAdd, Nat.reduceLeDiff, Nat.reduceMul, Nat.reduceSub, Nat.reduceLT, Nat.reduceEqDiff, Int.reduceAdd, Int.reduceSub, Int.reduceLE, Int.reduceLT, Int.reduceEq, Int.reduceNe, Int.reduceToNat, Int.reduceNeg, reduceIte, reduceCtorEq, eq_true c5, eq_true c6]
            exact retQ_back (.inl rfl) 3 _ rfl (Shift.refl _ _) H.sub hm
          · replace hm := ifn hm c6
            simp (maxSteps := 4000000) -implicitDefEqProofs (disch := omega) only [push_cast, Nat.reduceAdd, Nat.reduceLeDiff, Nat.reduceMul, Nat.reduceSub, Nat.reduceLT, Nat.reduceEqDiff, Int.reduceAdd, Int.reduceSub, Int.reduceLE, Int.reduceLT, Int.reduceEq, Int.reduceNe, Int.reduceToNat, Int.reduceNeg, reduceIte, reduceCtorEq, eq_true c5, eq_false c6]
            replace H := H.perm [] (by decide)
            exact ⟨h2, by simp [Like, push_cast], rfl, H, hm⟩
        · replace hm := ifn hm c5
          simp (maxSteps := 4000000) -implicitDefEqProofs (disch := omega) only [push_cast, Nat.reduceAdd, Nat.reduceLeDiff, Nat.reduceMul, Nat.reduceSub, Nat.reduceLT, Nat.reduceEqDiff, Int.reduceAdd, Int.reduceSub, Int.reduceLE, Int.reduceLT, Int.reduceEq, Int.reduceNe, Int.reduceToNat, Int.reduceNeg, reduceIte, reduceCtorEq, eq_false c5]
          replace H := H.perm [] (by decide)
          exact ⟨h2, by simp [Like, push_cast], rfl, H, hm⟩
      · rintro ⟨tm, h3⟩ ⟨_, hL, rfl, H, hm⟩
        dsimp only at hL H
        obtain ⟨D, rfl⟩ := hL.fill 0
        replace hm := hk3 _ hm
        simp (maxSteps := 4000000) -implicitDefEqProofs (disch := omega) only [push_cast, Nat.reduceAdd, Nat.reduceLeDiff, Nat.reduceMul, Nat.reduceSub, Nat.reduceLT, Nat.reduceEqDiff, Int.reduceAdd, Int.reduceSub, Int.reduceLE, Int.reduceLT, Int.reduceEq, Int.reduceNe, Int.reduceToNat, Int.reduceNeg, reduceIte, reduceCtorEq]
        rw [fork_cond]
        refine ⟨fun c7 => ?_, fun c7 => ?_⟩
        · replace hm := ifp hm c7
          simp (maxSteps := 4000000) -implicitDefEqProofs (disch := omega) only [push_cast, Nat.reduceAdd, Nat.reduceLeDiff, Nat.reduceMul, Nat.reduceSub, Nat.reduceLT, Nat.reduceEqDiff, Int.reduceAdd, Int.reduceSub, Int.reduceLE, Int.reduceLT, Int.reduceEq, Int.reduceNe, Int.reduceToNat, Int.reduceNeg, reduceIte, reduceCtorEq, eq_true c7]
          exact retQ_back (.inl rfl) 5 _ rfl (Shift.refl _ _) H.sub hm
        · replace hm := ifn hm c7
          simp (maxSteps := 4000000) -implicitDefEqProofs (disch := omega) only [push_cast, Nat.reduceAdd, Nat.reduceLeDiff, Nat.reduceMul, Nat.reduceSub, Nat.reduceLT, Nat.reduceEqDiff, Int.reduceAdd, Int.reduceSub, Int.reduceLE, Int.reduceLT, Int.reduceEq, Int.reduceNe, Int.reduceToNat, Int.reduceNeg, reduceIte, reduceCtorEq, eq_false c7]
          rw [fork_cond]
          refine ⟨fun c8 => ?_, fun c8 => ?_⟩
          · replace hm := ifp hm c8
            simp (maxSteps := 4000000) -implicitDefEqProofs (disch := omega) only [push_cast, Nat.reduceAdd, Nat.reduceLeDiff, Nat.reduceMul, Nat.reduceSub, Nat.reduceLT, Nat.reduceEqDiff, Int.reduceAdd, Int.reduceSub, Int.reduceLE, Int.reduceLT, Int.reduceEq, Int.reduceNe, Int.reduceToNat, Int.reduceNeg, reduceIte, reduceCtorEq, eq_false c7, eq_true c8]
            exact retQ_back (.inl rfl) 6 _ rfl (Shift.refl _ _) H.sub hm
          · replace hm := ifn hm c8
            simp (maxSteps := 4000000) -implicitDefEqProofs (disch := omega) only [push_cast, Nat.reduceAdd, Nat.reduceLeDiff, Nat.reduceMul, Nat.reduceSub, Nat.reduceLT, Nat.reduceEqDiff, Int.reduceAdd, Int.reduceSub, Int.reduceLE, Int.reduceLT, Int.reduceEq, Int.reduceNe, Int.reduceToNat, Int.reduceNeg, reduceIte, reduceCtorEq, eq_false c7, eq_false c8]
            refine calls_w (fun h => stylusref01_Marks.ok hm h) (fun r1 hm => ?_)
            simp (maxSteps := 4000000) -implicitDefEqProofs (disch := omega) only [push_cast, Nat.reduceAdd, Nat.reduceLeDiff, Nat.reduceMul, Nat.reduceSub, Nat.reduceLT, Nat.reduceEqDiff, Int.reduceAdd, Int.reduceSub, Int.reduceLE, Int.reduceLT, Int.reduceEq, Int.reduceNe, Int.reduceToNat, Int.reduceNeg, reduceIte, reduceCtorEq, eq_false c7, eq_false c8]
            obtain ⟨inv1, mu1, hi1, hs1⟩ := hm
            replace H := H.perm [] (by decide)
            refine awp_loop (σ := Int × Hp) (fun ⟨a1, h4⟩ => ⟨(((List.replicate 39 AV.any).set 0 (.val (.int .u8 a0_))).set 3 (astr r1)).set 4 (aint a1), h4⟩) (fun ⟨a1, h4⟩ => inv1 a1 ∧ AM.Own h0 h4 []) (fun ⟨a1, h4⟩ => mu1 a1) ⟨0, h3⟩ (Retell.weak (by simp [Weak, push_cast]) (Hp.sub.refl _)) ⟨hi1, H⟩ ?_
            rintro ⟨a1, h4⟩ ⟨hi1, H⟩
            have hm := hs1 _ hi1
            dsimp only at hm H ⊢
            simp (maxSteps := 4000000) -implicitDefEqProofs (disch := omega) only [push_cast, Nat.reduceAdd, Nat.reduceLeDiff, Nat.reduceMul, Nat.reduceSub, Nat.reduceLT, Nat.reduceEqDiff, Int.reduceAdd, Int.reduceSub, Int.reduceLE, Int.reduceLT, Int.reduceEq, Int.reduceNe, Int.reduceToNat, Int.reduceNeg, reduceIte, reduceCtorEq, eq_false c7, eq_false c8]
            rw [fork_cond]
            refine ⟨fun c9 => ?_, fun c9 => ?_⟩
            · replace hm := ifp hm c9
              obtain ⟨z1, hm⟩ := hm
              obtain ⟨v1, i1, hm⟩ := hm
              simp (maxSteps := 4000000) -implicitDefEqProofs (disch := omega) only [push_cast, Nat.reduceAdd, Nat.reduceLeDiff, Nat.reduceMul, Nat.reduceSub, Nat.reduceLT, Nat.reduceEqDiff, Int.reduceAdd, Int.reduceSub, Int.reduceLE, Int.reduceLT, Int.reduceEq, Int.reduceNe, Int.reduceToNat, Int.reduceNeg, reduceIte, reduceCtorEq, eq_false c7, eq_false c8, eq_true c9, eq_true z1, i1]
              rw [fork_cond]
              refine ⟨fun c10 => ?_, fun c10 => ?_⟩
              · replace hm := ifp hm c10
                simp (maxSteps := 4000000) -implicitDefEqProofs (disch := omega) only [push_cast, Nat.reduceAdd, Nat.reduceLeDiff, Nat.reduceMul, Nat.reduceSub, Nat.reduceLT, Nat.reduceEqDiff, Int.reduceAdd, Int.reduceSub, Int.reduceLE, Int.reduceLT, Int.reduceEq, Int.reduceNe, Int.reduceToNat, Int.reduceNeg, reduceIte, reduceCtorEq, eq_false c7, eq_false c8, eq_true c9, eq_true z1, i1, eq_true c10]
                exact retQ_back (.inl rfl) 4 _ rfl (Shift.refl _ _) H.sub hm
              · replace hm := ifn hm c10
                obtain ⟨w1, hm⟩ := hm
                simp (maxSteps := 4000000) -implicitDefEqProofs (disch := omega) only [push_cast, Nat.reduceAdd, Nat.reduceLeDiff, Nat.reduceMul, Nat.reduceSub, Nat.reduceLT, Nat.reduceEqDiff, Int.reduceAdd, Int.reduceSub, Int.reduceLE, Int.reduceLT, Int.reduceEq, Int.reduceNe, Int.reduceToNat, Int.reduceNeg, reduceIte, reduceCtorEq, eq_false c7, eq_false c8, eq_true c9, eq_true z1, i1, eq_false c10, wrap_i64 _ w1]
                replace H := H.perm [] (by decide)
                exact ⟨⟨a1 + 1, h4⟩, hm.2, ⟨hm.1, H⟩, Retell.weak (by simp [Weak, push_cast]) (Hp.sub.refl _)⟩
            · replace hm := ifn hm c9
              simp (maxSteps := 4000000) -implicitDefEqProofs (disch := omega) only [push_cast, Nat.reduceAdd, Nat.reduceLeDiff, Nat.reduceMul, Nat.reduceSub, Nat.reduceLT, Nat.reduceEqDiff, Int.reduceAdd, Int.reduceSub, Int.reduceLE, Int.reduceLT, Int.reduceEq, Int.reduceNe, Int.reduceToNat, Int.reduceNeg, reduceIte, reduceCtorEq, eq_false c7, eq_false c8, eq_false c9]
              exact retQ_back (.inl rfl) 0 _ rfl (Shift.refl _ _) H.sub hm
/-! stylus/stylusref01.Letter -/
abbrev n_stylusref01_Letter : Nat := 28
noncomputable def code_stylusref01_Letter : Code := match Try.f28.body with | some c => c | none => .skip
def ann_stylusref01_Letter : Nat → Ann
  | _ => {}
noncomputable def ac_stylusref01_Letter : AC :=
  (.seq (.reg [⟨some 2, (Op.assign (Operand.const (Value.bool false))), none, false⟩]) (.seq (.reg [⟨some 3, (Op.move (Operand.tmp 0)), none, false⟩, ⟨some 4, (Op.call (Call.mk (Callee.value (Operand.func 34)) #[(Operand.tmp 3)] #[5])), none, false⟩, ⟨some 5, (Op.binOp BinOp.eql 3 (Operand.tmp 4) (Operand.const (Value.int IntKind.i64 1)) 3), none, false⟩, ⟨some 6, (Op.move (Operand.tmp 5)), none, false⟩, ⟨some 7, (Op.move (Operand.tmp 0)), (some (some 6, false)), false⟩, ⟨some 8, (Op.call (Call.mk (Callee.value (Operand.func 34)) #[(Operand.tmp 7)] #[5])), (some (some 6, false)), false⟩, ⟨some 9, (Op.binOp BinOp.eql 3 (Operand.tmp 8) (Operand.const (Value.int IntKind.i64 2)) 3), (some (some 6, false)), false⟩, ⟨some 10, (Op.pick (Operand.tmp 6) (Operand.const (Value.bool true)) (Operand.tmp 9)), none, false⟩, ⟨some 2, (Op.assign (Operand.tmp 10)), none, false⟩]) .ret))
theorem body_stylusref01_Letter : Try.f28.body = some code_stylusref01_Letter := by kernel_rfl
theorem slim_stylusref01_Letter : slim ann_stylusref01_Letter code_stylusref01_Letter = some ac_stylusref01_Letter := by kernel_rfl
theorem name_stylusref01_Letter : (Try.f28.name == "runtime.NumGoroutine") = false := by kernel_rfl
theorem enter_stylusref01_Letter {args : List AV} {h : Hp} {Q : AE → Hp → Prop} (H : awp Try.prog tab ac_stylusref01_Letter (retQ tab [(ResultVar.tmp 2)] Q) ⟨args ++ List.replicate (11 - args.length) .any, h⟩) : ACalls Try.prog 28 args h Q :=
  acalls_of tab_ok mixed Try.func28 body_stylusref01_Letter name_stylusref01_Letter slim_stylusref01_Letter rfl Try.ntmps28 H
/-- stylus/stylusref01.Letter -/
def stylusref01_Letter.w (a0_ : Int) (Q : Bool → Prop) : Prop :=
  stylusref01_Class.w a0_ (fun r1 =>
    if r1 = 1 then
      Q true
    else
      stylusref01_Class.w a0_ (fun r2 =>
        Q (decide (r2 = 2))))
theorem stylusref01_Letter.ok {a0_ : Int} {Q : Bool → Prop} (hm : stylusref01_Letter.w a0_ Q) (h0 : Hp) : ACalls Try.prog n_stylusref01_Letter [(.val (.int .u8 a0_))] h0 (Back h0 (fun r => (abool r)) Q) := by
  refine enter_stylusref01_Letter ?_
  unfold stylusref01_Letter.w at hm
  have H := AM.Own.nil h0
  simp (maxSteps := 4000000) -implicitDefEqProofs (disch := omega) only [push_cast, Nat.reduceAdd, Nat.reduceLeDiff, Nat.reduceMul, Nat.reduceSub, Nat.reduceLT, Nat.reduceEqDiff, Int.reduceAdd, Int.reduceSub, Int.reduceLE, Int.reduceLT, Int.reduceEq, Int.reduceNe, Int.reduceToNat, Int.reduceNeg, reduceIte, reduceCtorEq, ac_stylusref01_Letter]
  refine calls_w (fun h => stylusref01_Class.ok hm h) (fun r1 hm => ?_)
  simp (maxSteps := 4000000) -implicitDefEqProofs (disch := omega) only [push_cast, Nat.reduceAdd, Nat.reduceLeDiff, Nat.reduceMul, Nat.reduceSub, Nat.reduceLT, Nat.reduceEqDiff, Int.reduceAdd, Int.reduceSub, Int.reduceLE, Int.reduceLT, Int.reduceEq, Int.reduceNe, Int.reduceToNat, Int.reduceNeg, reduceIte, reduceCtorEq]
  rw [gfork_cond']
  refine ⟨fun c1 => ?_, fun c1 => ?_⟩
  · replace hm := ifp hm c1
    simp (maxSteps := 4000000) -implicitDefEqProofs (disch := omega) only [push_cast, Nat.reduceAdd, Nat.reduceLeDiff, Nat.reduceMul, Nat.reduceSub, Nat.reduceLT, Nat.reduceEqDiff, Int.reduceAdd, Int.reduceSub, Int.reduceLE, Int.reduceLT, Int.reduceEq, Int.reduceNe, Int.reduceToNat, Int.reduceNeg, reduceIte, reduceCtorEq, eq_true c1]
    exact retQ_back (.inl rfl) true _ rfl (Shift.refl _ _) H.sub hm
  · replace hm := ifn hm c1
    simp (maxSteps := 4000000) -implicitDefEqProofs (disch := omega) only [push_cast, Nat.reduceAdd, Nat.reduceLeDiff, Nat.reduceMul, Nat.reduceSub, Nat.reduceLT, Nat.reduceEqDiff, Int.reduceAdd, Int.reduceSub, Int.reduceLE, Int.reduceLT, Int.reduceEq, Int.reduceNe, Int.reduceToNat, Int.reduceNeg, reduceIte, reduceCtorEq, eq_false c1]
    refine calls_w (fun h => stylusref01_Class.ok hm h) (fun r2 hm => ?_)
    simp (maxSteps := 4000000) -implicitDefEqProofs (disch := omega) only [push_cast, Nat.reduceAdd, Nat.reduceLeDiff, Nat.reduceMul, Nat.reduceSub, Nat.reduceLT, Nat.reduceEqDiff, Int.reduceAdd, Int.reduceSub, Int.reduceLE, Int.reduceLT, Int.reduceEq, Int.reduceNe, Int.reduceToNat, Int.reduceNeg, reduceIte, reduceCtorEq, eq_false c1]
    exact retQ_back (.inl rfl) (decide (r2 = 2)) _ rfl (Shift.refl _ _) H.sub hm
/-! stylus/stylusref33.letter -/
abbrev n_stylusref33_letter : Nat := 20
noncomputable def code_stylusref33_letter : Code := match Try.f20.body with | some c => c | none => .skip
def ann_stylusref33_letter : Nat → Ann
  | _ => {}
noncomputable def ac_stylusref33_letter : AC :=
  (.seq (.reg [⟨some 4, (Op.assign (Operand.const (Value.bool false))), none, false⟩]) (.seq (.reg [⟨some 5, (Op.move (Operand.tmp 1)), none, false⟩, ⟨some 6, (Op.binOp BinOp.geq 3 (Operand.tmp 5) (Operand.const (Value.int IntKind.i64 0)) 3), none, false⟩, ⟨some 7, (Op.move (Operand.tmp 6)), none, false⟩, ⟨some 8, (Op.move (Operand.tmp 1)), (some (some 7, true)), false⟩, ⟨some 9, (Op.move (Operand.tmp 0)), (some (some 7, true)), false⟩, ⟨some 10, (Op.call (Call.mk (Callee.builtin Builtin.len) #[(Operand.tmp 9)] #[22])), (some (some 7, true)), false⟩, ⟨some 11, (Op.binOp BinOp.lss 3 (Operand.tmp 8) (Operand.tmp 10) 3), (some (some 7, true)), false⟩, ⟨some 12, (Op.pick (Operand.tmp 7) (Operand.tmp 11) (Operand.const (Value.bool false))), none, false⟩, ⟨some 13, (Op.move (Operand.tmp 12)), none, false⟩, ⟨some 14, (Op.move (Operand.tmp 0)), (some (some 13, true)), false⟩, ⟨some 15, (Op.move (Operand.tmp 1)), (some (some 13, true)), false⟩, ⟨some 16, (Op.indexAddr 22 (Operand.tmp 14) (Operand.tmp 15)), (some (some 13, true)), false⟩, ⟨some 17, (Op.fieldAddr 38 (Operand.tmp 16) 0), (some (some 13, true)), false⟩, ⟨some 18, (Op.load 3 (Operand.tmp 17)), (some (some 13, true)), false⟩, ⟨some 19, (Op.binOp BinOp.eql 3 (Operand.tmp 18) (Operand.const (Value.int IntKind.i64 1)) 3), (some (some 13, true)), false⟩, ⟨some 20, (Op.pick (Operand.tmp 13) (Operand.tmp 19) (Operand.const (Value.bool false))), none, false⟩, ⟨some 21, (Op.move (Operand.tmp 20)), none, false⟩, ⟨some 22, (Op.move (Operand.tmp 0)), (some (some 21, true)), false⟩, ⟨some 23, (Op.move (Operand.tmp 1)), (some (some 21, true)), false⟩, ⟨some 24, (Op.indexAddr 22 (Operand.tmp 22) (Operand.tmp 23)), (some (some 21, true)), false⟩, ⟨some 25, (Op.fieldAddr 38 (Operand.tmp 24) 1), (some (some 21, true)), false⟩, ⟨some 26, (Op.load 5 (Operand.tmp 25)), (some (some 21, true)), false⟩, ⟨some 27, (Op.call (Call.mk (Callee.value (Operand.func 28)) #[(Operand.tmp 26)] #[5])), (some (some 21, true)), false⟩, ⟨some 28, (Op.pick (Operand.tmp 21) (Operand.tmp 27) (Operand.const (Value.bool false))), none, false⟩, ⟨some 4, (Op.assign (Operand.tmp 28)), none, false⟩]) .ret))
theorem body_stylusref33_letter : Try.f20.body = some code_stylusref33_letter := by kernel_rfl
theorem slim_stylusref33_letter : slim ann_stylusref33_letter code_stylusref33_letter = some ac_stylusref33_letter := by kernel_rfl
theorem name_stylusref33_letter : (Try.f20.name == "runtime.NumGoroutine") = false := by kernel_rfl
theorem enter_stylusref33_letter {args : List AV} {h : Hp} {Q : AE → Hp → Prop} (H : awp Try.prog tab ac_stylusref33_letter (retQ tab [(ResultVar.tmp 4)] Q) ⟨args ++ List.replicate (29 - args.length) .any, h⟩) : ACalls Try.prog 20 args h Q :=
  acalls_of tab_ok mixed Try.func20 body_stylusref33_letter name_stylusref33_letter slim_stylusref33_letter rfl Try.ntmps20 H
/-- stylus/stylusref33.letter -/
def stylusref33_letter.w (a0_ : List ApiTok) (a1_ : Int) (Q : Bool → Prop) : Prop :=
  if 0 ≤ a1_ then
    if a1_ < (a0_.length : Int) then
      (0 ≤ a1_) ∧
      ∃ v1 : ApiTok, a0_[a1_.toNat]? = some v1 ∧
      if v1.Kind = 1 then
        stylusref01_Letter.w v1.Ch (fun r1 =>
          Q r1)
      else
        Q false
    else
      Q false
  else
    Q false
theorem stylusref33_letter.ok {a0_ : List ApiTok} {a1_ : Int} {Q : Bool → Prop} (hm : stylusref33_letter.w a0_ a1_ Q) (h0 : Hp) : ACalls Try.prog n_stylusref33_letter [(.isl 3 (a0_.map ApiTok.enc)), (aint a1_)] h0 (Back h0 (fun r => (abool r)) Q) := by
  refine enter_stylusref33_letter ?_
  unfold stylusref33_letter.w at hm
  have H := AM.Own.nil h0
  simp (maxSteps := 4000000) -implicitDefEqProofs (disch := omega) only [push_cast, Nat.reduceAdd, Nat.reduceLeDiff, Nat.reduceMul, Nat.reduceSub, Nat.reduceLT, Nat.reduceEqDiff, Int.reduceAdd, Int.reduceSub, Int.reduceLE, Int.reduceLT, Int.reduceEq, Int.reduceNe, Int.reduceToNat, Int.reduceNeg, reduceIte, reduceCtorEq, ac_stylusref33_letter]
  rw [gfork_cond]
  refine ⟨fun c1 => ?_, fun c1 => ?_⟩
  · replace hm := ifp hm c1
    simp (maxSteps := 4000000) -implicitDefEqProofs (disch := omega) only [push_cast, Nat.reduceAdd, Nat.reduceLeDiff, Nat.reduceMul, Nat.reduceSub, Nat.reduceLT, Nat.reduceEqDiff, Int.reduceAdd, Int.reduceSub, Int.reduceLE, Int.reduceLT, Int.reduceEq, Int.reduceNe, Int.reduceToNat, Int.reduceNeg, reduceIte, reduceCtorEq, eq_true c1]
    rw [gfork_cond]
    refine ⟨fun c2 => ?_, fun c2 => ?_⟩
    · replace hm := ifp hm c2
      obtain ⟨z1, hm⟩ := hm
      obtain ⟨v1, i1, hm⟩ := hm
      simp (maxSteps := 4000000) -implicitDefEqProofs (disch := omega) only [push_cast, Nat.reduceAdd, Nat.reduceLeDiff, Nat.reduceMul, Nat.reduceSub, Nat.reduceLT, Nat.reduceEqDiff, Int.reduceAdd, Int.reduceSub, Int.reduceLE, Int.reduceLT, Int.reduceEq, Int.reduceNe, Int.reduceToNat, Int.reduceNeg, reduceIte, reduceCtorEq, eq_true c1, eq_true c2, eq_true z1, i1]
      rw [gfork_cond]
      refine ⟨fun c3 => ?_, fun c3 => ?_⟩
      · replace hm := ifp hm c3
        simp (maxSteps := 4000000) -implicitDefEqProofs (disch := omega) only [push_cast, Nat.reduceAdd, Nat.reduceLeDiff, Nat.reduceMul, Nat.reduceSub, Nat.reduceLT, Nat.reduceEqDiff, Int.reduceAdd, Int.reduceSub, Int.reduceLE, Int.reduceLT, Int.reduceEq, Int.reduceNe, Int.reduceToNat, Int.reduceNeg, reduceIte, reduceCtorEq, eq_true c1, eq_true c2, eq_true z1, i1, eq_true c3]
        refine calls_w (fun h => stylusref01_Letter.ok hm h) (fun r1 hm => ?_)
        simp (maxSteps := 4000000) -implicitDefEqProofs (disch := omega) only [push_cast, Nat.reduceAdd, Nat.reduceLeDiff, Nat.reduceMul, Nat.reduceSub, Nat.reduceLT, Nat.reduceEqDiff, Int.reduceAdd, Int.reduceSub, Int.reduceLE, Int.reduceLT, Int.reduceEq, Int.reduceNe, Int.reduceToNat, Int.reduceNeg, reduceIte, reduceCtorEq, eq_true c1, eq_true c2, eq_true z1, i1, eq_true c3]
        exact retQ_back (.inl rfl) r1 _ rfl (Shift.refl _ _) H.sub hm
      · replace hm := ifn hm c3
        simp (maxSteps := 4000000) -implicitDefEqProofs (disch := omega) only [push_cast, Nat.reduceAdd, Nat.reduceLeDiff, Nat.reduceMul, Nat.reduceSub, Nat.reduceLT, Nat.reduceEqDiff, Int.reduceAdd, Int.reduceSub, Int.reduceLE, Int.reduceLT, Int.reduceEq, Int.reduceNe, Int.reduceToNat, Int.reduceNeg, reduceIte, reduceCtorEq, eq_true c1, eq_true c2, eq_true z1, i1, eq_false c3]
        exact retQ_back (.inl rfl) false _ rfl (Shift.refl _ _) H.sub hm
    · replace hm := ifn hm c2
      simp (maxSteps := 4000000) -implicitDefEqProofs (disch := omega) only [push_cast, Nat.reduceAdd, Nat.reduceLeDiff, Nat.reduceMul, Nat.reduceSub, Nat.reduceLT, Nat.reduceEqDiff, Int.reduceAdd, Int.reduceSub, Int.reduceLE, Int.reduceLT, Int.reduceEq, Int.reduceNe, Int.reduceToNat, Int.reduceNeg, reduceIte, reduceCtorEq, eq_true c1, eq_false c2]
      exact retQ_back (.inl rfl) false _ rfl (Shift.refl _ _) H.sub hm
  · replace hm := ifn hm c1
    simp (maxSteps := 4000000) -implicitDefEqProofs (disch := omega) only [push_cast, Nat.reduceAdd, Nat.reduceLeDiff, Nat.reduceMul, Nat.reduceSub, Nat.reduceLT, Nat.reduceEqDiff, Int.reduceAdd, Int.reduceSub, Int.reduceLE, Int.reduceLT, Int.reduceEq, Int.reduceNe, Int.reduceToNat, Int.reduceNeg, reduceIte, reduceCtorEq, eq_false c1]
    exact retQ_back (.inl rfl) false _ rfl (Shift.refl _ _) H.sub hm
end Go.Proofs.Ytnenodamppageaa
