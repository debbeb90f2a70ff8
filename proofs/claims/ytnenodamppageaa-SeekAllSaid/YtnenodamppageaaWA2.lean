/- Functions of the program: code, what is asked for their answers, the walk (printed by pr.py). -/
import Derived.Test.YtnenodamppageaaWA1
namespace Go.Proofs.Ytnenodamppageaa
open Go Go.Proofs.Ytnenodamppageaa.AM
set_option maxRecDepth 100000
set_option linter.unusedSimpArgs false
set_option linter.unusedVariables false
set_option maxHeartbeats 4000000
/-! stylus/styluslaw33.said -/
abbrev n_styluslaw33_said : Nat := 19
noncomputable def code_styluslaw33_said : Code := match Try.f19.body with | some c => c | none => .skip
def ann_styluslaw33_said : Nat → Ann
  | _ => {}
noncomputable def ac_styluslaw33_said_c2 : AC :=
  (.seq (.seq (.reg [⟨some 23, (Op.move (Operand.tmp 0)), none, false⟩, ⟨some 24, (Op.move (Operand.tmp 4)), none, false⟩, ⟨some 25, (Op.index 9 (Operand.tmp 23) (Operand.tmp 24)), none, false⟩, ⟨some 26, (Op.binOp BinOp.eql 5 (Operand.tmp 25) (Operand.const (Value.int IntKind.u8 41)) 5), none, false⟩]) (.cond (Operand.tmp 26) (.reg [⟨some 27, (Op.build 38 #[(0, (Operand.const (Value.int IntKind.i64 3))), (1, (Operand.const (Value.int IntKind.u8 101)))]), none, false⟩, ⟨none, (Op.store 38 (Operand.tmp 5) (Operand.tmp 27)), none, false⟩]) .skip)) (.reg [⟨some 28, (Op.move (Operand.tmp 3)), none, false⟩, ⟨some 29, (Op.load 38 (Operand.tmp 5)), none, false⟩, ⟨some 30, (Op.buildSlice 22 1 #[(0, (Operand.tmp 29))]), none, false⟩, ⟨some 31, (Op.call (Call.mk (Callee.builtin Builtin.append) #[(Operand.tmp 28), (Operand.tmp 30)] #[22, 22])), none, false⟩, ⟨some 3, (Op.assign (Operand.tmp 31)), none, false⟩]))
noncomputable def ac_styluslaw33_said_c1 : AC :=
  (.seq (.seq (.reg [⟨some 18, (Op.move (Operand.tmp 0)), none, false⟩, ⟨some 19, (Op.move (Operand.tmp 4)), none, false⟩, ⟨some 20, (Op.index 9 (Operand.tmp 18) (Operand.tmp 19)), none, false⟩, ⟨some 21, (Op.binOp BinOp.eql 5 (Operand.tmp 20) (Operand.const (Value.int IntKind.u8 40)) 5), none, false⟩]) (.cond (Operand.tmp 21) (.reg [⟨some 22, (Op.build 38 #[(0, (Operand.const (Value.int IntKind.i64 2))), (1, (Operand.const (Value.int IntKind.u8 101)))]), none, false⟩, ⟨none, (Op.store 38 (Operand.tmp 5) (Operand.tmp 22)), none, false⟩]) .skip)) ac_styluslaw33_said_c2)
noncomputable def ac_styluslaw33_said : AC :=
  (.seq (.reg [⟨some 2, (Op.assign (Operand.const (Value.slice none 0 0))), none, false⟩]) (.seq (.reg [⟨some 6, (Op.build 38 #[(0, (Operand.const (Value.int IntKind.i64 2))), (1, (Operand.const (Value.int IntKind.u8 112)))]), none, false⟩, ⟨some 7, (Op.buildSlice 22 1 #[(0, (Operand.tmp 6))]), none, false⟩, ⟨some 3, (Op.assign (Operand.tmp 7)), none, false⟩]) (.seq (.seq (.reg [⟨some 4, (Op.assign (Operand.const (Value.int IntKind.i64 0))), none, false⟩]) (.block 0 (.loop (.seq (.seq (.reg [⟨some 8, (Op.move (Operand.tmp 4)), none, false⟩, ⟨some 9, (Op.move (Operand.tmp 0)), none, false⟩, ⟨some 10, (Op.call (Call.mk (Callee.builtin Builtin.len) #[(Operand.tmp 9)] #[9])), none, false⟩, ⟨some 11, (Op.binOp BinOp.lss 3 (Operand.tmp 8) (Operand.tmp 10) 3), none, false⟩]) (.cond (Operand.tmp 11) .skip (.exit 0))) (.seq (.block 1 (.seq (.reg [⟨some 14, (Op.move (Operand.tmp 0)), none, false⟩, ⟨some 15, (Op.move (Operand.tmp 4)), none, false⟩, ⟨some 16, (Op.index 9 (Operand.tmp 14) (Operand.tmp 15)), none, false⟩, ⟨some 17, (Op.build 38 #[(0, (Operand.const (Value.int IntKind.i64 1))), (1, (Operand.tmp 16))]), none, false⟩, ⟨some 5, (Op.alloc 38), none, false⟩, ⟨none, (Op.store 38 (Operand.tmp 5) (Operand.tmp 17)), none, false⟩]) ac_styluslaw33_said_c1)) (.reg [⟨some 12, (Op.move (Operand.tmp 4)), none, false⟩, ⟨some 13, (Op.binOp BinOp.add 3 (Operand.tmp 12) (Operand.const (Value.int IntKind.i64 1)) 3), none, false⟩, ⟨some 4, (Op.assign (Operand.tmp 13)), none, false⟩])))))) (.seq (.reg [⟨some 32, (Op.move (Operand.tmp 3)), none, false⟩, ⟨some 33, (Op.build 38 #[(0, (Operand.const (Value.int IntKind.i64 3))), (1, (Operand.const (Value.int IntKind.u8 112)))]), none, false⟩, ⟨some 34, (Op.buildSlice 22 1 #[(0, (Operand.tmp 33))]), none, false⟩, ⟨some 35, (Op.call (Call.mk (Callee.builtin Builtin.append) #[(Operand.tmp 32), (Operand.tmp 34)] #[22, 22])), none, false⟩, ⟨some 2, (Op.assign (Operand.tmp 35)), none, false⟩]) .ret))))
theorem body_styluslaw33_said : Try.f19.body = some code_styluslaw33_said := by kernel_rfl
theorem slim_styluslaw33_said : slim ann_styluslaw33_said code_styluslaw33_said = some ac_styluslaw33_said := by kernel_rfl
theorem name_styluslaw33_said : (Try.f19.name == "runtime.NumGoroutine") = false := by kernel_rfl
theorem enter_styluslaw33_said {args : List AV} {h : Hp} {Q : AE → Hp → Prop} (H : awp Try.prog tab ac_styluslaw33_said (retQ tab [(ResultVar.tmp 2)] Q) ⟨args ++ List.replicate (36 - args.length) .any, h⟩) : ACalls Try.prog 19 args h Q :=
  acalls_of tab_ok mixed Try.func19 body_styluslaw33_said name_styluslaw33_said slim_styluslaw33_said rfl Try.ntmps19 H
/-- stylus/styluslaw33.said -/
def styluslaw33_said.w (a0_ : ByteArray) (Q : (List ApiTok) → Prop) : Prop :=
  wloop (σ := (List ApiTok) × Int) (fun ⟨a1, a2⟩ next1 =>
    if a2 < (a0_.size : Int) then
      (0 ≤ a2) ∧
      ∃ v1 : UInt8, a0_[a2.toNat]? = some v1 ∧
      wcut (α := ApiTok) (fun k1 =>
        if (v1.toNat : Int) = 40 then
          k1 (⟨2, 101, 0⟩ : ApiTok)
        else
          k1 (⟨1, (v1.toNat : Int), 0⟩ : ApiTok)) (fun a3 =>
        wcut (α := ApiTok) (fun k2 =>
          if (v1.toNat : Int) = 41 then
            k2 (⟨3, 101, 0⟩ : ApiTok)
          else
            k2 a3) (fun a4 =>
          ((a1.length + ([a4] : List ApiTok).length) * 24 ≤ 140737488355328) ∧
          (I64 (a2 + 1)) ∧
          next1 (a1 ++ ([a4] : List ApiTok), a2 + 1)))
    else
      ((a1.length + ([(⟨3, 112, 0⟩ : ApiTok)] : List ApiTok).length) * 24 ≤ 140737488355328) ∧
      Q (a1 ++ ([(⟨3, 112, 0⟩ : ApiTok)] : List ApiTok))) (([(⟨2, 112, 0⟩ : ApiTok)] : List ApiTok), 0)
theorem styluslaw33_said.ok {a0_ : ByteArray} {Q : (List ApiTok) → Prop} (hm : styluslaw33_said.w a0_ Q) (h0 : Hp) : ACalls Try.prog n_styluslaw33_said [(astr a0_)] h0 (Back h0 (fun r => (.isl 3 (r.map ApiTok.enc))) Q) := by
  refine enter_styluslaw33_said ?_
  unfold styluslaw33_said.w at hm
  have H := AM.Own.nil h0
  simp (maxSteps := 4000000) -implicitDefEqProofs (disch := omega) only [push_cast, Nat.reduceAdd, Nat.reduceLeDiff, Nat.reduceMul, Nat.reduceSub, Nat.reduceLT, Nat.reduceEqDiff, Int.reduceAdd, Int.reduceSub, Int.reduceLE, Int.reduceLT, Int.reduceEq, Int.reduceNe, Int.reduceToNat, Int.reduceNeg, reduceIte, reduceCtorEq, ac_styluslaw33_said]
  refine H.newL (E := ApiTok.enc) ([(⟨2, 112, 0⟩ : ApiTok)] : List ApiTok) rfl rfl (fun b1 h1 H => ?_)
  simp (maxSteps := 4000000) -implicitDefEqProofs (disch := omega) only [push_cast, Nat.reduceAdd, Nat.reduceLeDiff, Nat.reduceMul, Nat.reduceSub, Nat.reduceLT, Nat.reduceEqDiff, Int.reduceAdd, Int.reduceSub, Int.reduceLE, Int.reduceLT, Int.reduceEq, Int.reduceNe, Int.reduceToNat, Int.reduceNeg, reduceIte, reduceCtorEq]
  obtain ⟨inv1, mu1, hi1, hs1⟩ := hm
  replace H := H.perm [0] (by decide)
  refine awp_loop (σ := ((List ApiTok) × Int) × AV × Hp) (fun ⟨⟨a1, a2⟩, x1, h2⟩ => ⟨(((List.replicate 36 AV.any).set 0 (astr a0_)).set 3 x1).set 4 (aint a2), h2⟩) (fun ⟨⟨a1, a2⟩, x1, h2⟩ => inv1 (a1, a2) ∧ AM.Own h0 h2 [⟨x1, false, 3, a1.map ApiTok.enc, some (38, 0)⟩]) (fun ⟨⟨a1, a2⟩, x1, h2⟩ => mu1 (a1, a2)) ⟨(([(⟨2, 112, 0⟩ : ApiTok)] : List ApiTok), 0), (.osl b1 3 0 1), h1⟩ (Retell.weak (by simp [Weak, push_cast]) (Hp.sub.refl _)) ⟨hi1, H⟩ ?_
  rintro ⟨⟨a1, a2⟩, x1, h2⟩ ⟨hi1, H⟩
  have hm := hs1 _ hi1
  dsimp only at hm H ⊢
  simp (maxSteps := 4000000) -implicitDefEqProofs (disch := omega) only [push_cast, Nat.reduceAdd, Nat.reduceLeDiff, Nat.reduceMul, Nat.reduceSub, Nat.reduceLT, Nat.reduceEqDiff, Int.reduceAdd, Int.reduceSub, Int.reduceLE, Int.reduceLT, Int.reduceEq, Int.reduceNe, Int.reduceToNat, Int.reduceNeg, reduceIte, reduceCtorEq]
  rw [fork_cond]
  refine ⟨fun c1 => ?_, fun c1 => ?_⟩
  · replace hm := ifp hm c1
    obtain ⟨z1, hm⟩ := hm
    obtain ⟨v1, i1, hm⟩ := hm
    simp (maxSteps := 4000000) -implicitDefEqProofs (disch := omega) only [push_cast, Nat.reduceAdd, Nat.reduceLeDiff, Nat.reduceMul, Nat.reduceSub, Nat.reduceLT, Nat.reduceEqDiff, Int.reduceAdd, Int.reduceSub, Int.reduceLE, Int.reduceLT, Int.reduceEq, Int.reduceNe, Int.reduceToNat, Int.reduceNeg, reduceIte, reduceCtorEq, eq_true c1, eq_true z1, i1]
    refine H.newR [(aint 0), (.val (.int .u8 0)), (aint 0)] rfl (fun b2 h3 H => ?_)
    have e1 := H.getP 1 rfl
    simp (maxSteps := 4000000) -implicitDefEqProofs (disch := omega) only [push_cast, Nat.reduceAdd, Nat.reduceLeDiff, Nat.reduceMul, Nat.reduceSub, Nat.reduceLT, Nat.reduceEqDiff, Int.reduceAdd, Int.reduceSub, Int.reduceLE, Int.reduceLT, Int.reduceEq, Int.reduceNe, Int.reduceToNat, Int.reduceNeg, reduceIte, reduceCtorEq, eq_true c1, eq_true z1, i1, e1]
    refine H.stP 1 [(aint 1), (.val (.int .u8 (v1.toNat : Int))), (aint 0)] rfl rfl rfl rfl (Nat.le_of_ble_eq_true rfl) rfl (fun h4 H => ?_)
    have e1 := H.getP 1 rfl
    simp (maxSteps := 4000000) -implicitDefEqProofs (disch := omega) only [push_cast, Nat.reduceAdd, Nat.reduceLeDiff, Nat.reduceMul, Nat.reduceSub, Nat.reduceLT, Nat.reduceEqDiff, Int.reduceAdd, Int.reduceSub, Int.reduceLE, Int.reduceLT, Int.reduceEq, Int.reduceNe, Int.reduceToNat, Int.reduceNeg, reduceIte, reduceCtorEq, eq_true c1, eq_true z1, i1, e1]
    obtain ⟨k1, hm, hk1⟩ := wcut_elim hm
    refine awp_cut (fun s' => ∃ (a3 : ApiTok) (h5 : Hp), Like s'.tm (((((List.replicate 36 none).set 0 (some (astr a0_))).set 3 (some x1)).set 4 (some (aint a2))).set 5 (some (.optr b2 3 0 0))) ∧ s'.h = h5 ∧ AM.Own h0 h5 [⟨x1, false, 3, a1.map ApiTok.enc, some (38, 0)⟩, ⟨(.optr b2 3 0 0), true, 3, [(ApiTok.enc a3)], some (38, 3)⟩] ∧ k1 a3) ?_ ?_
    · have e1 := H.getP 1 rfl
      simp (maxSteps := 4000000) -implicitDefEqProofs (disch := omega) only [push_cast, Nat.reduceAdd, Nat.reduceLeDiff, Nat.reduceMul, Nat.reduceSub, Nat.reduceLT, Nat.reduceEqDiff, Int.reduceAdd, Int.reduceSub, Int.reduceLE, Int.reduceLT, Int.reduceEq, Int.reduceNe, Int.reduceToNat, Int.reduceNeg, reduceIte, reduceCtorEq, eq_true c1, eq_true z1, i1, e1]
      rw [fork_cond]
      refine ⟨fun c2 => ?_, fun c2 => ?_⟩
      · replace hm := ifp hm c2
        have e1 := H.getP 1 rfl
        simp (maxSteps := 4000000) -implicitDefEqProofs (disch := omega) only [push_cast, Nat.reduceAdd, Nat.reduceLeDiff, Nat.reduceMul, Nat.reduceSub, Nat.reduceLT, Nat.reduceEqDiff, Int.reduceAdd, Int.reduceSub, Int.reduceLE, Int.reduceLT, Int.reduceEq, Int.reduceNe, Int.reduceToNat, Int.reduceNeg, reduceIte, reduceCtorEq, eq_true c1, eq_true z1, i1, eq_true c2, e1]
        refine H.stP 1 [(aint 2), (.val (.int .u8 101)), (aint 0)] rfl rfl rfl rfl (Nat.le_of_ble_eq_true rfl) rfl (fun h6 H => ?_)
        have e1 := H.getP 1 rfl
        simp (maxSteps := 4000000) -implicitDefEqProofs (disch := omega) only [push_cast, Nat.reduceAdd, Nat.reduceLeDiff, Nat.reduceMul, Nat.reduceSub, Nat.reduceLT, Nat.reduceEqDiff, Int.reduceAdd, Int.reduceSub, Int.reduceLE, Int.reduceLT, Int.reduceEq, Int.reduceNe, Int.reduceToNat, Int.reduceNeg, reduceIte, reduceCtorEq, eq_true c1, eq_true z1, i1, eq_true c2, e1]
        replace H := H.perm [0, 1] (by decide)
        exact ⟨(⟨2, 101, 0⟩ : ApiTok), h6, by simp [Like, push_cast], rfl, H, hm⟩
      · replace hm := ifn hm c2
        have e1 := H.getP 1 rfl
        simp (maxSteps := 4000000) -implicitDefEqProofs (disch := omega) only [push_cast, Nat.reduceAdd, Nat.reduceLeDiff, Nat.reduceMul, Nat.reduceSub, Nat.reduceLT, Nat.reduceEqDiff, Int.reduceAdd, Int.reduceSub, Int.reduceLE, Int.reduceLT, Int.reduceEq, Int.reduceNe, Int.reduceToNat, Int.reduceNeg, reduceIte, reduceCtorEq, eq_true c1, eq_true z1, i1, eq_false c2, e1]
        replace H := H.perm [0, 1] (by decide)
        exact ⟨(⟨1, (v1.toNat : Int), 0⟩ : ApiTok), h4, by simp [Like, push_cast], rfl, H, hm⟩
    · rintro ⟨tm, h5⟩ ⟨a3, _, hL, rfl, H, hm⟩
      dsimp only at hL H
      obtain ⟨D, rfl⟩ := hL.fill 0
      replace hm := hk1 _ hm
      have e1 := H.getP 1 rfl
      simp (maxSteps := 4000000) -implicitDefEqProofs (disch := omega) only [push_cast, Nat.reduceAdd, Nat.reduceLeDiff, Nat.reduceMul, Nat.reduceSub, Nat.reduceLT, Nat.reduceEqDiff, Int.reduceAdd, Int.reduceSub, Int.reduceLE, Int.reduceLT, Int.reduceEq, Int.reduceNe, Int.reduceToNat, Int.reduceNeg, reduceIte, reduceCtorEq, eq_true c1, eq_true z1, i1, e1]
      obtain ⟨k2, hm, hk2⟩ := wcut_elim hm
      refine awp_cut (fun s' => ∃ (a4 : ApiTok) (h7 : Hp), Like s'.tm (((((List.replicate 36 none).set 0 (some (astr a0_))).set 3 (some x1)).set 4 (some (aint a2))).set 5 (some (.optr b2 3 0 0))) ∧ s'.h = h7 ∧ AM.Own h0 h7 [⟨x1, false, 3, a1.map ApiTok.enc, some (38, 0)⟩, ⟨(.optr b2 3 0 0), true, 3, [(ApiTok.enc a4)], some (38, 3)⟩] ∧ k2 a4) ?_ ?_
      · have e1 := H.getP 1 rfl
        simp (maxSteps := 4000000) -implicitDefEqProofs (disch := omega) only [push_cast, Nat.reduceAdd, Nat.reduceLeDiff, Nat.reduceMul, Nat.reduceSub, Nat.reduceLT, Nat.reduceEqDiff, Int.reduceAdd, Int.reduceSub, Int.reduceLE, Int.reduceLT, Int.reduceEq, Int.reduceNe, Int.reduceToNat, Int.reduceNeg, reduceIte, reduceCtorEq, eq_true c1, eq_true z1, i1, e1]
        rw [fork_cond]
        refine ⟨fun c3 => ?_, fun c3 => ?_⟩
        · replace hm := ifp hm c3
          have e1 := H.getP 1 rfl
          simp (maxSteps := 4000000) -implicitDefEqProofs (disch := omega) only [push_cast, Nat.reduceAdd, Nat.reduceLeDiff, Nat.reduceMul, Nat.reduceSub, Nat.reduceLT, Nat.reduceEqDiff, Int.reduceAdd, Int.reduceSub, Int.reduceLE, Int.reduceLT, Int.reduceEq, Int.reduceNe, Int.reduceToNat, Int.reduceNeg, reduceIte, reduceCtorEq, eq_true c1, eq_true z1, i1, eq_true c3, e1]
          refine H.stP 1 [(aint 3), (.val (.int .u8 101)), (aint 0)] rfl rfl rfl rfl (Nat.le_of_ble_eq_true rfl) rfl (fun h8 H => ?_)
          have e1 := H.getP 1 rfl
          simp (maxSteps := 4000000) -implicitDefEqProofs (disch := omega) only [push_cast, Nat.reduceAdd, Nat.reduceLeDiff, Nat.reduceMul, Nat.reduceSub, Nat.reduceLT, Nat.reduceEqDiff, Int.reduceAdd, Int.reduceSub, Int.reduceLE, Int.reduceLT, Int.reduceEq, Int.reduceNe, Int.reduceToNat, Int.reduceNeg, reduceIte, reduceCtorEq, eq_true c1, eq_true z1, i1, eq_true c3, e1]
          replace H := H.perm [0, 1] (by decide)
          exact ⟨(⟨3, 101, 0⟩ : ApiTok), h8, by simp [Like, push_cast], rfl, H, hm⟩
        · replace hm := ifn hm c3
          have e1 := H.getP 1 rfl
          simp (maxSteps := 4000000) -implicitDefEqProofs (disch := omega) only [push_cast, Nat.reduceAdd, Nat.reduceLeDiff, Nat.reduceMul, Nat.reduceSub, Nat.reduceLT, Nat.reduceEqDiff, Int.reduceAdd, Int.reduceSub, Int.reduceLE, Int.reduceLT, Int.reduceEq, Int.reduceNe, Int.reduceToNat, Int.reduceNeg, reduceIte, reduceCtorEq, eq_true c1, eq_true z1, i1, eq_false c3, e1]
          replace H := H.perm [0, 1] (by decide)
          exact ⟨a3, h5, by simp [Like, push_cast], rfl, H, hm⟩
      · rintro ⟨tm, h7⟩ ⟨a4, _, hL, rfl, H, hm⟩
        dsimp only at hL H
        obtain ⟨D, rfl⟩ := hL.fill 0
        replace hm := hk2 _ hm
        have e1 := H.getP 1 rfl
        simp (maxSteps := 4000000) -implicitDefEqProofs (disch := omega) only [push_cast, Nat.reduceAdd, Nat.reduceLeDiff, Nat.reduceMul, Nat.reduceSub, Nat.reduceLT, Nat.reduceEqDiff, Int.reduceAdd, Int.reduceSub, Int.reduceLE, Int.reduceLT, Int.reduceEq, Int.reduceNe, Int.reduceToNat, Int.reduceNeg, reduceIte, reduceCtorEq, eq_true c1, eq_true z1, i1, e1]
        refine H.newL (E := ApiTok.enc) ([a4] : List ApiTok) rfl rfl (fun b3 h9 H => ?_)
        have e1 := H.getP 1 rfl
        simp (maxSteps := 4000000) -implicitDefEqProofs (disch := omega) only [push_cast, Nat.reduceAdd, Nat.reduceLeDiff, Nat.reduceMul, Nat.reduceSub, Nat.reduceLT, Nat.reduceEqDiff, Int.reduceAdd, Int.reduceSub, Int.reduceLE, Int.reduceLT, Int.reduceEq, Int.reduceNe, Int.reduceToNat, Int.reduceNeg, reduceIte, reduceCtorEq, eq_true c1, eq_true z1, i1, H.src (e := 38) 2 rfl, e1]
        obtain ⟨w1, hm⟩ := hm
        refine H.appL (E := ApiTok.enc) 0 ([a4] : List ApiTok) rfl rfl rfl (by decide) (by decide) w1 (fun x2 h10 H => ?_)
        obtain ⟨w2, hm⟩ := hm
        have e1 := H.getP 1 rfl
        simp (maxSteps := 4000000) -implicitDefEqProofs (disch := omega) only [push_cast, Nat.reduceAdd, Nat.reduceLeDiff, Nat.reduceMul, Nat.reduceSub, Nat.reduceLT, Nat.reduceEqDiff, Int.reduceAdd, Int.reduceSub, Int.reduceLE, Int.reduceLT, Int.reduceEq, Int.reduceNe, Int.reduceToNat, Int.reduceNeg, reduceIte, reduceCtorEq, eq_true c1, eq_true z1, i1, wrap_i64 _ w2, e1]
        replace H := H.perm [0] (by decide)
        exact ⟨⟨(a1 ++ ([a4] : List ApiTok), a2 + 1), x2, h10⟩, hm.2, ⟨hm.1, H⟩, Retell.weak (by simp [Weak, push_cast]) (Hp.sub.refl _)⟩
  · replace hm := ifn hm c1
    simp (maxSteps := 4000000) -implicitDefEqProofs (disch := omega) only [push_cast, Nat.reduceAdd, Nat.reduceLeDiff, Nat.reduceMul, Nat.reduceSub, Nat.reduceLT, Nat.reduceEqDiff, Int.reduceAdd, Int.reduceSub, Int.reduceLE, Int.reduceLT, Int.reduceEq, Int.reduceNe, Int.reduceToNat, Int.reduceNeg, reduceIte, reduceCtorEq, eq_false c1]
    refine H.newL (E := ApiTok.enc) ([(⟨3, 112, 0⟩ : ApiTok)] : List ApiTok) rfl rfl (fun b4 h11 H => ?_)
    simp (maxSteps := 4000000) -implicitDefEqProofs (disch := omega) only [push_cast, Nat.reduceAdd, Nat.reduceLeDiff, Nat.reduceMul, Nat.reduceSub, Nat.reduceLT, Nat.reduceEqDiff, Int.reduceAdd, Int.reduceSub, Int.reduceLE, Int.reduceLT, Int.reduceEq, Int.reduceNe, Int.reduceToNat, Int.reduceNeg, reduceIte, reduceCtorEq, eq_false c1, H.src (e := 38) 1 rfl]
    obtain ⟨w3, hm⟩ := hm
    refine H.appL (E := ApiTok.enc) 0 ([(⟨3, 112, 0⟩ : ApiTok)] : List ApiTok) rfl rfl rfl (by decide) (by decide) w3 (fun x3 h12 H => ?_)
    simp (maxSteps := 4000000) -implicitDefEqProofs (disch := omega) only [push_cast, Nat.reduceAdd, Nat.reduceLeDiff, Nat.reduceMul, Nat.reduceSub, Nat.reduceLT, Nat.reduceEqDiff, Int.reduceAdd, Int.reduceSub, Int.reduceLE, Int.reduceLT, Int.reduceEq, Int.reduceNe, Int.reduceToNat, Int.reduceNeg, reduceIte, reduceCtorEq, eq_false c1]
    obtain ⟨h13, s1, H⟩ := H.freeze 0 rfl
    exact retQ_back (.inl rfl) (a1 ++ ([(⟨3, 112, 0⟩ : ApiTok)] : List ApiTok)) _ rfl s1 H.sub hm
/-! stylus/styluslaw33.row -/
abbrev n_styluslaw33_row : Nat := 9
noncomputable def code_styluslaw33_row : Code := match Try.f9.body with | some c => c | none => .skip
def ann_styluslaw33_row : Nat → Ann
  | 6 => { pure := [], plan := (.op 0 (.op 1 (.op 2 (.op 3 (.op 4 (.op 5 (.op 6 (.op 7 (.op 8 .done))))))))), ghost := false, post := false }
  | _ => {}
noncomputable def ac_styluslaw33_row : AC :=
  (.seq (.reg [⟨some 4, (Op.assign (Operand.const (Value.bool false))), none, false⟩]) (.seq (.seq (.reg [⟨some 6, (Op.move (Operand.tmp 0)), none, false⟩, ⟨some 7, (Op.call (Call.mk (Callee.builtin Builtin.len) #[(Operand.tmp 6)] #[32])), none, false⟩, ⟨some 8, (Op.move (Operand.tmp 1)), none, false⟩, ⟨some 9, (Op.call (Call.mk (Callee.builtin Builtin.len) #[(Operand.tmp 8)] #[32])), none, false⟩, ⟨some 10, (Op.binOp BinOp.neq 3 (Operand.tmp 7) (Operand.tmp 9) 3), none, false⟩]) (.cond (Operand.tmp 10) (.seq (.reg [⟨some 4, (Op.assign (Operand.const (Value.bool false))), none, false⟩]) .ret) .skip)) (.seq (.seq (.reg [⟨some 5, (Op.assign (Operand.const (Value.int IntKind.i64 0))), none, false⟩]) (.block 0 (.loop (.seq (.seq (.reg [⟨some 11, (Op.move (Operand.tmp 5)), none, false⟩, ⟨some 12, (Op.move (Operand.tmp 0)), none, false⟩, ⟨some 13, (Op.call (Call.mk (Callee.builtin Builtin.len) #[(Operand.tmp 12)] #[32])), none, false⟩, ⟨some 14, (Op.binOp BinOp.lss 3 (Operand.tmp 11) (Operand.tmp 13) 3), none, false⟩]) (.cond (Operand.tmp 14) .skip (.exit 0))) (.seq (.block 1 (.seq (.draw [⟨some 17, (Op.move (Operand.tmp 0)), none, false⟩, ⟨some 18, (Op.move (Operand.tmp 5)), none, false⟩, ⟨some 19, (Op.indexAddr 32 (Operand.tmp 17) (Operand.tmp 18)), none, false⟩, ⟨some 20, (Op.load 3 (Operand.tmp 19)), none, false⟩, ⟨some 21, (Op.move (Operand.tmp 1)), none, false⟩, ⟨some 22, (Op.move (Operand.tmp 5)), none, false⟩, ⟨some 23, (Op.indexAddr 32 (Operand.tmp 21) (Operand.tmp 22)), none, false⟩, ⟨some 24, (Op.load 3 (Operand.tmp 23)), none, false⟩, ⟨some 25, (Op.binOp BinOp.neq 3 (Operand.tmp 20) (Operand.tmp 24) 3), none, false⟩] (.op 0 (.op 1 (.op 2 (.op 3 (.op 4 (.op 5 (.op 6 (.op 7 (.op 8 .done)))))))))) (.cond (Operand.tmp 25) (.seq (.reg [⟨some 4, (Op.assign (Operand.const (Value.bool false))), none, false⟩]) .ret) .skip))) (.reg [⟨some 15, (Op.move (Operand.tmp 5)), none, false⟩, ⟨some 16, (Op.binOp BinOp.add 3 (Operand.tmp 15) (Operand.const (Value.int IntKind.i64 1)) 3), none, false⟩, ⟨some 5, (Op.assign (Operand.tmp 16)), none, false⟩])))))) (.seq (.reg [⟨some 4, (Op.assign (Operand.const (Value.bool true))), none, false⟩]) .ret))))
theorem body_styluslaw33_row : Try.f9.body = some code_styluslaw33_row := by kernel_rfl
theorem slim_styluslaw33_row : slim ann_styluslaw33_row code_styluslaw33_row = some ac_styluslaw33_row := by kernel_rfl
theorem name_styluslaw33_row : (Try.f9.name == "runtime.NumGoroutine") = false := by kernel_rfl
theorem enter_styluslaw33_row {args : List AV} {h : Hp} {Q : AE → Hp → Prop} (H : awp Try.prog tab ac_styluslaw33_row (retQ tab [(ResultVar.tmp 4)] Q) ⟨args ++ List.replicate (26 - args.length) .any, h⟩) : ACalls Try.prog 9 args h Q :=
  acalls_of tab_ok mixed Try.func9 body_styluslaw33_row name_styluslaw33_row slim_styluslaw33_row rfl Try.ntmps9 H
/-- stylus/styluslaw33.row -/
def styluslaw33_row.w (a0_ : List Int) (a1_ : List Int) (Q : Bool → Prop) : Prop :=
  if (a0_.length : Int) = (a1_.length : Int) then
    wloop (σ := Int) (fun a1 next1 =>
      if a1 < (a0_.length : Int) then
        (0 ≤ a1) ∧
        ∃ v1 : Int, a0_[a1.toNat]? = some v1 ∧
        ∃ v2 : Int, a1_[a1.toNat]? = some v2 ∧
        if v1 = v2 then
          (I64 (a1 + 1)) ∧
          next1 (a1 + 1)
        else
          Q false
      else
        Q true) 0
  else
    Q false
theorem styluslaw33_row.ok {a0_ : List Int} {a1_ : List Int} {Q : Bool → Prop} (hm : styluslaw33_row.w a0_ a1_ Q) (h0 : Hp) : ACalls Try.prog n_styluslaw33_row [(.isl 1 (a0_.map encInt)), (.isl 1 (a1_.map encInt))] h0 (Back h0 (fun r => (abool r)) Q) := by
  refine enter_styluslaw33_row ?_
  unfold styluslaw33_row.w at hm
  have H := AM.Own.nil h0
  simp (maxSteps := 4000000) -implicitDefEqProofs (disch := omega) only [push_cast, Nat.reduceAdd, Nat.reduceLeDiff, Nat.reduceMul, Nat.reduceSub, Nat.reduceLT, Nat.reduceEqDiff, Int.reduceAdd, Int.reduceSub, Int.reduceLE, Int.reduceLT, Int.reduceEq, Int.reduceNe, Int.reduceToNat, Int.reduceNeg, reduceIte, reduceCtorEq, ac_styluslaw33_row]
  rw [fork_cond]
  refine ⟨fun c1 => ?_, fun c1 => ?_⟩
  · replace hm := ifn hm c1
    simp (maxSteps := 4000000) -implicitDefEqProofs (disch := omega) only [push_cast, Nat.reduceAdd, Nat.reduceLeDiff, Nat.reduceMul, Nat.reduceSub, Nat.reduceLT, Nat.reduceEqDiff, Int.reduceAdd, Int.reduceSub, Int.reduceLE, Int.reduceLT, Int.reduceEq, Int.reduceNe, Int.reduceToNat, Int.reduceNeg, reduceIte, reduceCtorEq, eq_false c1]
    exact retQ_back (.inl rfl) false _ rfl (Shift.refl _ _) H.sub hm
  · replace c1 := Decidable.not_not.1 c1
    replace hm := ifp hm c1
    simp (maxSteps := 4000000) -implicitDefEqProofs (disch := omega) only [push_cast, Nat.reduceAdd, Nat.reduceLeDiff, Nat.reduceMul, Nat.reduceSub, Nat.reduceLT, Nat.reduceEqDiff, Int.reduceAdd, Int.reduceSub, Int.reduceLE, Int.reduceLT, Int.reduceEq, Int.reduceNe, Int.reduceToNat, Int.reduceNeg, reduceIte, reduceCtorEq, eq_true c1]
    obtain ⟨inv1, mu1, hi1, hs1⟩ := hm
    replace H := H.perm [] (by decide)
    refine awp_loop (σ := Int × Hp) (fun ⟨a1, h1⟩ => ⟨(((List.replicate 26 AV.any).set 0 (.isl 1 (a0_.map encInt))).set 1 (.isl 1 (a1_.map encInt))).set 5 (aint a1), h1⟩) (fun ⟨a1, h1⟩ => inv1 a1 ∧ AM.Own h0 h1 []) (fun ⟨a1, h1⟩ => mu1 a1) ⟨0, h0⟩ (Retell.weak (by simp [Weak, push_cast]) (Hp.sub.refl _)) ⟨hi1, H⟩ ?_
    rintro ⟨a1, h1⟩ ⟨hi1, H⟩
    have hm := hs1 _ hi1
    dsimp only at hm H ⊢
    simp (maxSteps := 4000000) -implicitDefEqProofs (disch := omega) only [push_cast, Nat.reduceAdd, Nat.reduceLeDiff, Nat.reduceMul, Nat.reduceSub, Nat.reduceLT, Nat.reduceEqDiff, Int.reduceAdd, Int.reduceSub, Int.reduceLE, Int.reduceLT, Int.reduceEq, Int.reduceNe, Int.reduceToNat, Int.reduceNeg, reduceIte, reduceCtorEq, eq_true c1]
    rw [fork_cond]
    refine ⟨fun c2 => ?_, fun c2 => ?_⟩
    · replace hm := ifp hm c2
      obtain ⟨z1, hm⟩ := hm
      obtain ⟨v1, i1, hm⟩ := hm
      obtain ⟨v2, i2, hm⟩ := hm
      simp (maxSteps := 4000000) -implicitDefEqProofs (disch := omega) only [push_cast, Nat.reduceAdd, Nat.reduceLeDiff, Nat.reduceMul, Nat.reduceSub, Nat.reduceLT, Nat.reduceEqDiff, Int.reduceAdd, Int.reduceSub, Int.reduceLE, Int.reduceLT, Int.reduceEq, Int.reduceNe, Int.reduceToNat, Int.reduceNeg, reduceIte, reduceCtorEq, eq_true c1, eq_true c2, eq_true z1, i1, i2]
      rw [fork_cond]
      refine ⟨fun c3 => ?_, fun c3 => ?_⟩
      · replace hm := ifn hm c3
        simp (maxSteps := 4000000) -implicitDefEqProofs (disch := omega) only [push_cast, Nat.reduceAdd, Nat.reduceLeDiff, Nat.reduceMul, Nat.reduceSub, Nat.reduceLT, Nat.reduceEqDiff, Int.reduceAdd, Int.reduceSub, Int.reduceLE, Int.reduceLT, Int.reduceEq, Int.reduceNe, Int.reduceToNat, Int.reduceNeg, reduceIte, reduceCtorEq, eq_true c1, eq_true c2, eq_true z1, i1, i2, eq_false c3]
        exact retQ_back (.inl rfl) false _ rfl (Shift.refl _ _) H.sub hm
      · replace c3 := Decidable.not_not.1 c3
        replace hm := ifp hm c3
        obtain ⟨w1, hm⟩ := hm
        simp (maxSteps := 4000000) -implicitDefEqProofs (disch := omega) only [push_cast, Nat.reduceAdd, Nat.reduceLeDiff, Nat.reduceMul, Nat.reduceSub, Nat.reduceLT, Nat.reduceEqDiff, Int.reduceAdd, Int.reduceSub, Int.reduceLE, Int.reduceLT, Int.reduceEq, Int.reduceNe, Int.reduceToNat, Int.reduceNeg, reduceIte, reduceCtorEq, eq_true c1, eq_true c2, eq_true z1, i1, i2, eq_true c3, wrap_i64 _ w1]
        replace H := H.perm [] (by decide)
        exact ⟨⟨a1 + 1, h1⟩, hm.2, ⟨hm.1, H⟩, Retell.weak (by simp [Weak, push_cast]) (Hp.sub.refl _)⟩
    · replace hm := ifn hm c2
      simp (maxSteps := 4000000) -implicitDefEqProofs (disch := omega) only [push_cast, Nat.reduceAdd, Nat.reduceLeDiff, Nat.reduceMul, Nat.reduceSub, Nat.reduceLT, Nat.reduceEqDiff, Int.reduceAdd, Int.reduceSub, Int.reduceLE, Int.reduceLT, Int.reduceEq, Int.reduceNe, Int.reduceToNat, Int.reduceNeg, reduceIte, reduceCtorEq, eq_true c1, eq_false c2]
      exact retQ_back (.inl rfl) true _ rfl (Shift.refl _ _) H.sub hm
/-! stylus/styluslaw33.texts -/
abbrev n_styluslaw33_texts : Nat := 12
noncomputable def code_styluslaw33_texts : Code := match Try.f12.body with | some c => c | none => .skip
def ann_styluslaw33_texts : Nat → Ann
  | 6 => { pure := [], plan := (.op 0 (.op 1 (.op 2 (.op 3 (.op 4 (.op 5 (.op 6 (.op 7 (.op 8 .done))))))))), ghost := false, post := false }
  | _ => {}
noncomputable def ac_styluslaw33_texts : AC :=
  (.seq (.reg [⟨some 4, (Op.assign (Operand.const (Value.bool false))), none, false⟩]) (.seq (.seq (.reg [⟨some 6, (Op.move (Operand.tmp 0)), none, false⟩, ⟨some 7, (Op.call (Call.mk (Callee.builtin Builtin.len) #[(Operand.tmp 6)] #[35])), none, false⟩, ⟨some 8, (Op.move (Operand.tmp 1)), none, false⟩, ⟨some 9, (Op.call (Call.mk (Callee.builtin Builtin.len) #[(Operand.tmp 8)] #[35])), none, false⟩, ⟨some 10, (Op.binOp BinOp.neq 3 (Operand.tmp 7) (Operand.tmp 9) 3), none, false⟩]) (.cond (Operand.tmp 10) (.seq (.reg [⟨some 4, (Op.assign (Operand.const (Value.bool false))), none, false⟩]) .ret) .skip)) (.seq (.seq (.reg [⟨some 5, (Op.assign (Operand.const (Value.int IntKind.i64 0))), none, false⟩]) (.block 0 (.loop (.seq (.seq (.reg [⟨some 11, (Op.move (Operand.tmp 5)), none, false⟩, ⟨some 12, (Op.move (Operand.tmp 0)), none, false⟩, ⟨some 13, (Op.call (Call.mk (Callee.builtin Builtin.len) #[(Operand.tmp 12)] #[35])), none, false⟩, ⟨some 14, (Op.binOp BinOp.lss 3 (Operand.tmp 11) (Operand.tmp 13) 3), none, false⟩]) (.cond (Operand.tmp 14) .skip (.exit 0))) (.seq (.block 1 (.seq (.draw [⟨some 17, (Op.move (Operand.tmp 0)), none, false⟩, ⟨some 18, (Op.move (Operand.tmp 5)), none, false⟩, ⟨some 19, (Op.indexAddr 35 (Operand.tmp 17) (Operand.tmp 18)), none, false⟩, ⟨some 20, (Op.load 9 (Operand.tmp 19)), none, false⟩, ⟨some 21, (Op.move (Operand.tmp 1)), none, false⟩, ⟨some 22, (Op.move (Operand.tmp 5)), none, false⟩, ⟨some 23, (Op.indexAddr 35 (Operand.tmp 21) (Operand.tmp 22)), none, false⟩, ⟨some 24, (Op.load 9 (Operand.tmp 23)), none, false⟩, ⟨some 25, (Op.binOp BinOp.neq 9 (Operand.tmp 20) (Operand.tmp 24) 9), none, false⟩] (.op 0 (.op 1 (.op 2 (.op 3 (.op 4 (.op 5 (.op 6 (.op 7 (.op 8 .done)))))))))) (.cond (Operand.tmp 25) (.seq (.reg [⟨some 4, (Op.assign (Operand.const (Value.bool false))), none, false⟩]) .ret) .skip))) (.reg [⟨some 15, (Op.move (Operand.tmp 5)), none, false⟩, ⟨some 16, (Op.binOp BinOp.add 3 (Operand.tmp 15) (Operand.const (Value.int IntKind.i64 1)) 3), none, false⟩, ⟨some 5, (Op.assign (Operand.tmp 16)), none, false⟩])))))) (.seq (.reg [⟨some 4, (Op.assign (Operand.const (Value.bool true))), none, false⟩]) .ret))))
theorem body_styluslaw33_texts : Try.f12.body = some code_styluslaw33_texts := by kernel_rfl
theorem slim_styluslaw33_texts : slim ann_styluslaw33_texts code_styluslaw33_texts = some ac_styluslaw33_texts := by kernel_rfl
theorem name_styluslaw33_texts : (Try.f12.name == "runtime.NumGoroutine") = false := by kernel_rfl
theorem enter_styluslaw33_texts {args : List AV} {h : Hp} {Q : AE → Hp → Prop} (H : awp Try.prog tab ac_styluslaw33_texts (retQ tab [(ResultVar.tmp 4)] Q) ⟨args ++ List.replicate (26 - args.length) .any, h⟩) : ACalls Try.prog 12 args h Q :=
  acalls_of tab_ok mixed Try.func12 body_styluslaw33_texts name_styluslaw33_texts slim_styluslaw33_texts rfl Try.ntmps12 H
/-- stylus/styluslaw33.texts -/
def styluslaw33_texts.w (a0_ : List ByteArray) (a1_ : List ByteArray) (Q : Bool → Prop) : Prop :=
  if (a0_.length : Int) = (a1_.length : Int) then
    wloop (σ := Int) (fun a1 next1 =>
      if a1 < (a0_.length : Int) then
        (0 ≤ a1) ∧
        ∃ v1 : ByteArray, a0_[a1.toNat]? = some v1 ∧
        ∃ v2 : ByteArray, a1_[a1.toNat]? = some v2 ∧
        if v1 = v2 then
          (I64 (a1 + 1)) ∧
          next1 (a1 + 1)
        else
          Q false
      else
        Q true) 0
  else
    Q false
theorem styluslaw33_texts.ok {a0_ : List ByteArray} {a1_ : List ByteArray} {Q : Bool → Prop} (hm : styluslaw33_texts.w a0_ a1_ Q) (h0 : Hp) : ACalls Try.prog n_styluslaw33_texts [(.isl 1 (a0_.map AM.encStr)), (.isl 1 (a1_.map AM.encStr))] h0 (Back h0 (fun r => (abool r)) Q) := by
  refine enter_styluslaw33_texts ?_
  unfold styluslaw33_texts.w at hm
  have H := AM.Own.nil h0
  simp (maxSteps := 4000000) -implicitDefEqProofs (disch := omega) only [push_cast, Nat.reduceAdd, Nat.reduceLeDiff, Nat.reduceMul, Nat.reduceSub, Nat.reduceLT, Nat.reduceEqDiff, Int.reduceAdd, Int.reduceSub, Int.reduceLE, Int.reduceLT, Int.reduceEq, Int.reduceNe, Int.reduceToNat, Int.reduceNeg, reduceIte, reduceCtorEq, ac_styluslaw33_texts]
  rw [fork_cond]
  refine ⟨fun c1 => ?_, fun c1 => ?_⟩
  · replace hm := ifn hm c1
    simp (maxSteps := 4000000) -implicitDefEqProofs (disch := omega) only [push_cast, Nat.reduceAdd, Nat.reduceLeDiff, Nat.reduceMul, Nat.reduceSub, Nat.reduceLT, Nat.reduceEqDiff, Int.reduceAdd, Int.reduceSub, Int.reduceLE, Int.reduceLT, Int.reduceEq, Int.reduceNe, Int.reduceToNat, Int.reduceNeg, reduceIte, reduceCtorEq, eq_false c1]
    exact retQ_back (.inl rfl) false _ rfl (Shift.refl _ _) H.sub hm
  · replace c1 := Decidable.not_not.1 c1
    replace hm := ifp hm c1
    simp (maxSteps := 4000000) -implicitDefEqProofs (disch := omega) only [push_cast, Nat.reduceAdd, Nat.reduceLeDiff, Nat.reduceMul, Nat.reduceSub, Nat.reduceLT, Nat.reduceEqDiff, Int.reduceAdd, Int.reduceSub, Int.reduceLE, Int.reduceLT, Int.reduceEq, Int.reduceNe, Int.reduceToNat, Int.reduceNeg, reduceIte, reduceCtorEq, eq_true c1]
    obtain ⟨inv1, mu1, hi1, hs1⟩ := hm
    replace H := H.perm [] (by decide)
    refine awp_loop (σ := Int × Hp) (fun ⟨a1, h1⟩ => ⟨(((List.replicate 26 AV.any).set 0 (.isl 1 (a0_.map AM.encStr))).set 1 (.isl 1 (a1_.map AM.encStr))).set 5 (aint a1), h1⟩) (fun ⟨a1, h1⟩ => inv1 a1 ∧ AM.Own h0 h1 []) (fun ⟨a1, h1⟩ => mu1 a1) ⟨0, h0⟩ (Retell.weak (by simp [Weak, push_cast]) (Hp.sub.refl _)) ⟨hi1, H⟩ ?_
    rintro ⟨a1, h1⟩ ⟨hi1, H⟩
    have hm := hs1 _ hi1
    dsimp only at hm H ⊢
    simp (maxSteps := 4000000) -implicitDefEqProofs (disch := omega) only [push_cast, Nat.reduceAdd, Nat.reduceLeDiff, Nat.reduceMul, Nat.reduceSub, Nat.reduceLT, Nat.reduceEqDiff, Int.reduceAdd, Int.reduceSub, Int.reduceLE, Int.reduceLT, Int.reduceEq, Int.reduceNe, Int.reduceToNat, Int.reduceNeg, reduceIte, reduceCtorEq, eq_true c1]
    rw [fork_cond]
    refine ⟨fun c2 => ?_, fun c2 => ?_⟩
    · replace hm := ifp hm c2
      obtain ⟨z1, hm⟩ := hm
      obtain ⟨v1, i1, hm⟩ := hm
      obtain ⟨v2, i2, hm⟩ := hm
      simp (maxSteps := 4000000) -implicitDefEqProofs (disch := omega) only [push_cast, Nat.reduceAdd, Nat.reduceLeDiff, Nat.reduceMul, Nat.reduceSub, Nat.reduceLT, Nat.reduceEqDiff, Int.reduceAdd, Int.reduceSub, Int.reduceLE, Int.reduceLT, Int.reduceEq, Int.reduceNe, Int.reduceToNat, Int.reduceNeg, reduceIte, reduceCtorEq, eq_true c1, eq_true c2, eq_true z1, i1, i2]
      rw [fork_cond]
      refine ⟨fun c3 => ?_, fun c3 => ?_⟩
      · replace hm := ifn hm c3
        simp (maxSteps := 4000000) -implicitDefEqProofs (disch := omega) only [push_cast, Nat.reduceAdd, Nat.reduceLeDiff, Nat.reduceMul, Nat.reduceSub, Nat.reduceLT, Nat.reduceEqDiff, Int.reduceAdd, Int.reduceSub, Int.reduceLE, Int.reduceLT, Int.reduceEq, Int.reduceNe, Int.reduceToNat, Int.reduceNeg, reduceIte, reduceCtorEq, eq_true c1, eq_true c2, eq_true z1, i1, i2, eq_false c3]
        exact retQ_back (.inl rfl) false _ rfl (Shift.refl _ _) H.sub hm
      · replace c3 := Decidable.not_not.1 c3
        replace hm := ifp hm c3
        obtain ⟨w1, hm⟩ := hm
        simp (maxSteps := 4000000) -implicitDefEqProofs (disch := omega) only [push_cast, Nat.reduceAdd, Nat.reduceLeDiff, Nat.reduceMul, Nat.reduceSub, Nat.reduceLT, Nat.reduceEqDiff, Int.reduceAdd, Int.reduceSub, Int.reduceLE, Int.reduceLT, Int.reduceEq, Int.reduceNe, Int.reduceToNat, Int.reduceNeg, reduceIte, reduceCtorEq, eq_true c1, eq_true c2, eq_true z1, i1, i2, eq_true c3, wrap_i64 _ w1]
        replace H := H.perm [] (by decide)
        exact ⟨⟨a1 + 1, h1⟩, hm.2, ⟨hm.1, H⟩, Retell.weak (by simp [Weak, push_cast]) (Hp.sub.refl _)⟩
    · replace hm := ifn hm c2
      simp (maxSteps := 4000000) -implicitDefEqProofs (disch := omega) only [push_cast, Nat.reduceAdd, Nat.reduceLeDiff, Nat.reduceMul, Nat.reduceSub, Nat.reduceLT, Nat.reduceEqDiff, Int.reduceAdd, Int.reduceSub, Int.reduceLE, Int.reduceLT, Int.reduceEq, Int.reduceNe, Int.reduceToNat, Int.reduceNeg, reduceIte, reduceCtorEq, eq_true c1, eq_false c2]
      exact retQ_back (.inl rfl) true _ rfl (Shift.refl _ _) H.sub hm
/-! stylus/styluslaw33.awake -/
abbrev n_styluslaw33_awake : Nat := 6
noncomputable def code_styluslaw33_awake : Code := match Try.f6.body with | some c => c | none => .skip
def ann_styluslaw33_awake : Nat → Ann
  | _ => {}
noncomputable def ac_styluslaw33_awake : AC :=
  (.seq (.reg [⟨some 0, (Op.assign (Operand.const (Value.bool false))), none, false⟩]) (.seq (.reg [⟨some 5, (Op.call (Call.mk (Callee.value (Operand.func 19)) #[(Operand.const (Value.string (ByteArray.mk #[79, 110, 101, 32, 116, 119, 111, 45, 111, 110, 101, 32, 40, 111, 41, 110, 101])))] #[9])), none, false⟩, ⟨some 1, (Op.assign (Operand.tmp 5)), none, false⟩]) (.seq (.reg [⟨some 6, (Op.move (Operand.tmp 1)), none, false⟩, ⟨some 7, (Op.call (Call.mk (Callee.value (Operand.func 8)) #[(Operand.tmp 6)] #[22])), none, false⟩, ⟨some 2, (Op.assign (Operand.tmp 7)), none, false⟩]) (.seq (.seq (.reg [⟨some 8, (Op.move (Operand.tmp 2)), none, false⟩, ⟨some 9, (Op.binOp BinOp.eql 27 (Operand.tmp 8) (Operand.const Value.nilFunc) 27), none, false⟩]) (.cond (Operand.tmp 9) (.seq (.reg [⟨some 0, (Op.assign (Operand.const (Value.bool false))), none, false⟩]) .ret) .skip)) (.seq (.reg [⟨some 3, (Op.alloc 32), none, false⟩]) (.seq (.seq (.reg [⟨some 10, (Op.move (Operand.tmp 2)), none, false⟩]) (.block 0 (.range (Operand.tmp 10) [11, 12] (.reg [⟨some 4, (Op.assign (Operand.tmp 11)), none, false⟩]) (.block 1 (.reg [⟨some 13, (Op.load 32 (Operand.tmp 3)), none, false⟩, ⟨some 14, (Op.move (Operand.tmp 4)), none, false⟩, ⟨some 15, (Op.buildSlice 32 1 #[(0, (Operand.tmp 14))]), none, false⟩, ⟨some 16, (Op.call (Call.mk (Callee.builtin Builtin.append) #[(Operand.tmp 13), (Operand.tmp 15)] #[32, 32])), none, false⟩, ⟨none, (Op.store 32 (Operand.tmp 3) (Operand.tmp 16)), none, false⟩]))))) (.seq (.reg [⟨some 17, (Op.load 32 (Operand.tmp 3)), none, false⟩, ⟨some 18, (Op.buildSlice 32 5 #[(0, (Operand.const (Value.int IntKind.i64 1))), (1, (Operand.const (Value.int IntKind.i64 5))), (2, (Operand.const (Value.int IntKind.i64 9))), (3, (Operand.const (Value.int IntKind.i64 14))), (4, (Operand.const (Value.int IntKind.i64 16)))]), none, false⟩, ⟨some 19, (Op.call (Call.mk (Callee.value (Operand.func 9)) #[(Operand.tmp 17), (Operand.tmp 18)] #[32, 32])), none, false⟩, ⟨some 20, (Op.move (Operand.tmp 19)), none, false⟩, ⟨some 21, (Op.move (Operand.tmp 1)), (some (some 20, true)), false⟩, ⟨some 22, (Op.call (Call.mk (Callee.value (Operand.func 10)) #[(Operand.tmp 21), (Operand.const (Value.string (ByteArray.mk #[111, 110, 101])))] #[22, 9])), (some (some 20, true)), false⟩, ⟨some 23, (Op.buildSlice 32 2 #[(0, (Operand.const (Value.int IntKind.i64 1))), (1, (Operand.const (Value.int IntKind.i64 9)))]), (some (some 20, true)), false⟩, ⟨some 24, (Op.call (Call.mk (Callee.value (Operand.func 9)) #[(Operand.tmp 22), (Operand.tmp 23)] #[32, 32])), (some (some 20, true)), false⟩, ⟨some 25, (Op.pick (Operand.tmp 20) (Operand.tmp 24) (Operand.const (Value.bool false))), none, false⟩, ⟨some 26, (Op.move (Operand.tmp 25)), none, false⟩, ⟨some 27, (Op.move (Operand.tmp 1)), (some (some 26, true)), false⟩, ⟨some 28, (Op.call (Call.mk (Callee.value (Operand.func 10)) #[(Operand.tmp 27), (Operand.const (Value.string (ByteArray.mk #[116, 119, 111, 45, 111, 110, 101])))] #[22, 9])), (some (some 26, true)), false⟩, ⟨some 29, (Op.call (Call.mk (Callee.builtin Builtin.len) #[(Operand.tmp 28)] #[32])), (some (some 26, true)), false⟩, ⟨some 30, (Op.binOp BinOp.eql 3 (Operand.tmp 29) (Operand.const (Value.int IntKind.i64 0)) 3), (some (some 26, true)), false⟩, ⟨some 31, (Op.pick (Operand.tmp 26) (Operand.tmp 30) (Operand.const (Value.bool false))), none, false⟩, ⟨some 32, (Op.move (Operand.tmp 31)), none, false⟩, ⟨some 33, (Op.move (Operand.tmp 1)), (some (some 32, true)), false⟩, ⟨some 34, (Op.call (Call.mk (Callee.value (Operand.func 10)) #[(Operand.tmp 33), (Operand.const (Value.string (ByteArray.mk #[])))] #[22, 9])), (some (some 32, true)), false⟩, ⟨some 35, (Op.call (Call.mk (Callee.builtin Builtin.len) #[(Operand.tmp 34)] #[32])), (some (some 32, true)), false⟩, ⟨some 36, (Op.binOp BinOp.eql 3 (Operand.tmp 35) (Operand.const (Value.int IntKind.i64 0)) 3), (some (some 32, true)), false⟩, ⟨some 37, (Op.pick (Operand.tmp 32) (Operand.tmp 36) (Operand.const (Value.bool false))), none, false⟩, ⟨some 38, (Op.move (Operand.tmp 37)), none, false⟩, ⟨some 39, (Op.move (Operand.tmp 1)), (some (some 38, true)), false⟩, ⟨some 40, (Op.call (Call.mk (Callee.value (Operand.func 13)) #[(Operand.tmp 39)] #[22])), (some (some 38, true)), false⟩, ⟨some 41, (Op.buildSlice 35 4 #[(0, (Operand.const (Value.string (ByteArray.mk #[110, 101])))), (1, (Operand.const (Value.string (ByteArray.mk #[111])))), (2, (Operand.const (Value.string (ByteArray.mk #[111, 110, 101])))), (3, (Operand.const (Value.string (ByteArray.mk #[116, 119, 111]))))]), (some (some 38, true)), false⟩, ⟨some 42, (Op.call (Call.mk (Callee.value (Operand.func 12)) #[(Operand.tmp 40), (Operand.tmp 41)] #[35, 35])), (some (some 38, true)), false⟩, ⟨some 43, (Op.pick (Operand.tmp 38) (Operand.tmp 42) (Operand.const (Value.bool false))), none, false⟩, ⟨some 0, (Op.assign (Operand.tmp 43)), none, false⟩]) .ret)))))))
theorem body_styluslaw33_awake : Try.f6.body = some code_styluslaw33_awake := by kernel_rfl
theorem slim_styluslaw33_awake : slim ann_styluslaw33_awake code_styluslaw33_awake = some ac_styluslaw33_awake := by kernel_rfl
theorem name_styluslaw33_awake : (Try.f6.name == "runtime.NumGoroutine") = false := by kernel_rfl
theorem enter_styluslaw33_awake {args : List AV} {h : Hp} {Q : AE → Hp → Prop} (H : awp Try.prog tab ac_styluslaw33_awake (retQ tab [(ResultVar.tmp 0)] Q) ⟨args ++ List.replicate (44 - args.length) .any, h⟩) : ACalls Try.prog 6 args h Q :=
  acalls_of tab_ok mixed Try.func6 body_styluslaw33_awake name_styluslaw33_awake slim_styluslaw33_awake rfl Try.ntmps6 H
/-- stylus/styluslaw33.awake -/
def styluslaw33_awake.w (Q : Bool → Prop) : Prop :=
  styluslaw33_said.w (ByteArray.mk #[79, 110, 101, 32, 116, 119, 111, 45, 111, 110, 101, 32, 40, 111, 41, 110, 101]) (fun r1 =>
    seek_Words.w r1 (fun r2 =>
      seek_Words_1_i0.w (σ := (List Int) × Nat) (fun ⟨v1, v2⟩ ⟨a1, n1⟩ k1 => n1 = 0 ∧
        ((a1.length + ([v1] : List Int).length) * 8 ≤ 140737488355328) ∧
        k1 true (a1 ++ ([v1] : List Int), 0)) r2 (([] : List Int), 0) (fun ⟨a1, n2⟩ =>
        styluslaw33_row.w a1 ([1, 5, 9, 14, 16] : List Int) (fun r3 =>
          if r3 = true then
            seek_At.w r1 (ByteArray.mk #[111, 110, 101]) (fun r4 =>
              styluslaw33_row.w r4 ([1, 9] : List Int) (fun r5 =>
                if r5 = true then
                  seek_At.w r1 (ByteArray.mk #[116, 119, 111, 45, 111, 110, 101]) (fun r6 =>
                    if (r6.length : Int) = 0 then
                      seek_At.w r1 (ByteArray.mk #[]) (fun r7 =>
                        if (r7.length : Int) = 0 then
                          seek_Index.w r1 (fun r8 =>
                            styluslaw33_texts.w r8 ([(ByteArray.mk #[110, 101]), (ByteArray.mk #[111]), (ByteArray.mk #[111, 110, 101]), (ByteArray.mk #[116, 119, 111])] : List ByteArray) (fun r9 =>
                              Q r9))
                        else
                          Q false)
                    else
                      Q false)
                else
                  Q false))
          else
            Q false))))
theorem styluslaw33_awake.ok {Q : Bool → Prop} (hm : styluslaw33_awake.w Q) (h0 : Hp) : ACalls Try.prog n_styluslaw33_awake [] h0 (Back h0 (fun r => (abool r)) Q) := by
  refine enter_styluslaw33_awake ?_
  unfold styluslaw33_awake.w at hm
  have H := AM.Own.nil h0
  simp (maxSteps := 4000000) -implicitDefEqProofs (disch := omega) only [push_cast, Nat.reduceAdd, Nat.reduceLeDiff, Nat.reduceMul, Nat.reduceSub, Nat.reduceLT, Nat.reduceEqDiff, Int.reduceAdd, Int.reduceSub, Int.reduceLE, Int.reduceLT, Int.reduceEq, Int.reduceNe, Int.reduceToNat, Int.reduceNeg, reduceIte, reduceCtorEq, ac_styluslaw33_awake]
  refine calls_w (fun h => styluslaw33_said.ok hm h) (fun r1 hm => ?_)
  simp (maxSteps := 4000000) -implicitDefEqProofs (disch := omega) only [push_cast, Nat.reduceAdd, Nat.reduceLeDiff, Nat.reduceMul, Nat.reduceSub, Nat.reduceLT, Nat.reduceEqDiff, Int.reduceAdd, Int.reduceSub, Int.reduceLE, Int.reduceLT, Int.reduceEq, Int.reduceNe, Int.reduceToNat, Int.reduceNeg, reduceIte, reduceCtorEq]
  refine calls_w (fun h => seek_Words.ok hm h) (fun r2 hm => ?_)
  simp (maxSteps := 4000000) -implicitDefEqProofs (disch := omega) only [push_cast, Nat.reduceAdd, Nat.reduceLeDiff, Nat.reduceMul, Nat.reduceSub, Nat.reduceLT, Nat.reduceEqDiff, Int.reduceAdd, Int.reduceSub, Int.reduceLE, Int.reduceLT, Int.reduceEq, Int.reduceNe, Int.reduceToNat, Int.reduceNeg, reduceIte, reduceCtorEq]
  refine H.newR [anil] rfl (fun b1 h1 H => ?_)
  have e0 := H.getP 0 rfl
  simp (maxSteps := 4000000) -implicitDefEqProofs (disch := omega) only [push_cast, Nat.reduceAdd, Nat.reduceLeDiff, Nat.reduceMul, Nat.reduceSub, Nat.reduceLT, Nat.reduceEqDiff, Int.reduceAdd, Int.reduceSub, Int.reduceLE, Int.reduceLT, Int.reduceEq, Int.reduceNe, Int.reduceToNat, Int.reduceNeg, reduceIte, reduceCtorEq, e0]
  replace H := H.addNil 1 (some (3, 0))
  replace H := H.perm [0, 1] (by decide)
  refine awp_range (σ := (List Int)) (α := Int × ByteArray) (enc := (fun x => [(aint x.1), (astr x.2)])) (n := 21) rfl [] (fun (s : (List Int)) its rs => match s with | a1 => ∃ (x1 : AV), its = [⟨(.optr b1 1 0 0), true, 1, [[x1]], some (32, 1)⟩, ⟨x1, false, 1, a1.map encInt, some (3, 0)⟩] ∧ rs = []) (fun hY hR hS => seek_Words_1_i0.ok hm hY hR hS) _ [] ⟨anil, rfl, rfl⟩ H.r (fun _ => rfl) (by rintro ⟨v1, v2⟩ a1 k K hk hy; exact hk hy.1) ?_ ?_
  · rintro ⟨v1, v2⟩ a1 _ _ k1 hb1 h2 hy hI HO
    dsimp only at hy hI
    obtain ⟨_, hm⟩ := hy
    obtain ⟨x1, rfl, rfl⟩ := hI
    replace H := HO.own
    have e0 := H.getP 0 rfl
    simp (maxSteps := 4000000) -implicitDefEqProofs (disch := omega) only [push_cast, Nat.reduceAdd, Nat.reduceLeDiff, Nat.reduceMul, Nat.reduceSub, Nat.reduceLT, Nat.reduceEqDiff, Int.reduceAdd, Int.reduceSub, Int.reduceLE, Int.reduceLT, Int.reduceEq, Int.reduceNe, Int.reduceToNat, Int.reduceNeg, reduceIte, reduceCtorEq, setAll, List.zip_cons_cons, List.zip_nil_left, List.foldl_cons, List.foldl_nil, e0]
    refine ⟨_, H.r, fun hb2 h3 HO => ?_⟩
    replace H := HO.own
    have e0 := H.getP 0 rfl
    try simp (maxSteps := 4000000) -implicitDefEqProofs (disch := omega) only [push_cast, Nat.reduceAdd, Nat.reduceLeDiff, Nat.reduceMul, Nat.reduceSub, Nat.reduceLT, Nat.reduceEqDiff, Int.reduceAdd, Int.reduceSub, Int.reduceLE, Int.reduceLT, Int.reduceEq, Int.reduceNe, Int.reduceToNat, Int.reduceNeg, reduceIte, reduceCtorEq, setAll, List.zip_cons_cons, List.zip_nil_left, List.foldl_cons, List.foldl_nil, e0]
    refine H.newL (E := encInt) ([v1] : List Int) rfl rfl (fun b2 h4 H => ?_)
    have e0 := H.getP 0 rfl
    simp (maxSteps := 4000000) -implicitDefEqProofs (disch := omega) only [push_cast, Nat.reduceAdd, Nat.reduceLeDiff, Nat.reduceMul, Nat.reduceSub, Nat.reduceLT, Nat.reduceEqDiff, Int.reduceAdd, Int.reduceSub, Int.reduceLE, Int.reduceLT, Int.reduceEq, Int.reduceNe, Int.reduceToNat, Int.reduceNeg, reduceIte, reduceCtorEq, setAll, List.zip_cons_cons, List.zip_nil_left, List.foldl_cons, List.foldl_nil, H.src (e := 3) 2 rfl, e0]
    obtain ⟨w1, hm⟩ := hm
    refine H.appL (E := encInt) 1 ([v1] : List Int) rfl rfl rfl (by decide) (by decide) w1 (fun x2 h5 H => ?_)
    have e0 := H.getP 0 rfl
    simp (maxSteps := 4000000) -implicitDefEqProofs (disch := omega) only [push_cast, Nat.reduceAdd, Nat.reduceLeDiff, Nat.reduceMul, Nat.reduceSub, Nat.reduceLT, Nat.reduceEqDiff, Int.reduceAdd, Int.reduceSub, Int.reduceLE, Int.reduceLT, Int.reduceEq, Int.reduceNe, Int.reduceToNat, Int.reduceNeg, reduceIte, reduceCtorEq, setAll, List.zip_cons_cons, List.zip_nil_left, List.foldl_cons, List.foldl_nil, e0]
    refine H.stP 0 [x2] rfl (H.ok 1 rfl).1 (H.ok 1 rfl).2 rfl (Nat.le_of_ble_eq_true rfl) rfl (fun h6 H => ?_)
    have e0 := H.getP 0 rfl
    simp (maxSteps := 4000000) -implicitDefEqProofs (disch := omega) only [push_cast, Nat.reduceAdd, Nat.reduceLeDiff, Nat.reduceMul, Nat.reduceSub, Nat.reduceLT, Nat.reduceEqDiff, Int.reduceAdd, Int.reduceSub, Int.reduceLE, Int.reduceLT, Int.reduceEq, Int.reduceNe, Int.reduceToNat, Int.reduceNeg, reduceIte, reduceCtorEq, setAll, List.zip_cons_cons, List.zip_nil_left, List.foldl_cons, List.foldl_nil, e0]
    replace H := H.perm [0, 1] (by decide)
    exact rngQ_of 0 (a1 ++ ([v1] : List Int)) ⟨x2, rfl, rfl⟩ H.r hm trivial
  · rintro a1 n2 _ _ h7 hm hI HO
    dsimp only at hm hI
    obtain ⟨x1, rfl, rfl⟩ := hI
    replace H := HO.own
    rw [penOf_nil]
    have e0 := H.getP 0 rfl
    simp (maxSteps := 4000000) -implicitDefEqProofs (disch := omega) only [push_cast, Nat.reduceAdd, Nat.reduceLeDiff, Nat.reduceMul, Nat.reduceSub, Nat.reduceLT, Nat.reduceEqDiff, Int.reduceAdd, Int.reduceSub, Int.reduceLE, Int.reduceLT, Int.reduceEq, Int.reduceNe, Int.reduceToNat, Int.reduceNeg, reduceIte, reduceCtorEq, penOf, apend, e0]
    refine H.newL (E := encInt) ([1, 5, 9, 14, 16] : List Int) rfl rfl (fun b3 h8 H => ?_)
    have e0 := H.getP 0 rfl
    simp (maxSteps := 4000000) -implicitDefEqProofs (disch := omega) only [push_cast, Nat.reduceAdd, Nat.reduceLeDiff, Nat.reduceMul, Nat.reduceSub, Nat.reduceLT, Nat.reduceEqDiff, Int.reduceAdd, Int.reduceSub, Int.reduceLE, Int.reduceLT, Int.reduceEq, Int.reduceNe, Int.reduceToNat, Int.reduceNeg, reduceIte, reduceCtorEq, penOf, apend, e0]
    refine calls_lw (fun h => styluslaw33_row.ok hm h) (fun _ => rfl) ⟨H.lent 1 rfl, H.lent 2 rfl, trivial⟩ (fun r3 hm => ?_)
    have e0 := H.getP 0 rfl
    simp (maxSteps := 4000000) -implicitDefEqProofs (disch := omega) only [push_cast, Nat.reduceAdd, Nat.reduceLeDiff, Nat.reduceMul, Nat.reduceSub, Nat.reduceLT, Nat.reduceEqDiff, Int.reduceAdd, Int.reduceSub, Int.reduceLE, Int.reduceLT, Int.reduceEq, Int.reduceNe, Int.reduceToNat, Int.reduceNeg, reduceIte, reduceCtorEq, penOf, apend, e0]
    rw [gfork_bool]
    refine ⟨fun c1 => ?_, fun c1 => ?_⟩
    · replace hm := ifp hm c1
      have e0 := H.getP 0 rfl
      simp (maxSteps := 4000000) -implicitDefEqProofs (disch := omega) only [push_cast, Nat.reduceAdd, Nat.reduceLeDiff, Nat.reduceMul, Nat.reduceSub, Nat.reduceLT, Nat.reduceEqDiff, Int.reduceAdd, Int.reduceSub, Int.reduceLE, Int.reduceLT, Int.reduceEq, Int.reduceNe, Int.reduceToNat, Int.reduceNeg, reduceIte, reduceCtorEq, penOf, apend, c1, e0]
      refine calls_w (fun h => seek_At.ok hm h) (fun r4 hm => ?_)
      have e0 := H.getP 0 rfl
      simp (maxSteps := 4000000) -implicitDefEqProofs (disch := omega) only [push_cast, Nat.reduceAdd, Nat.reduceLeDiff, Nat.reduceMul, Nat.reduceSub, Nat.reduceLT, Nat.reduceEqDiff, Int.reduceAdd, Int.reduceSub, Int.reduceLE, Int.reduceLT, Int.reduceEq, Int.reduceNe, Int.reduceToNat, Int.reduceNeg, reduceIte, reduceCtorEq, penOf, apend, c1, e0]
      refine H.newL (E := encInt) ([1, 9] : List Int) rfl rfl (fun b4 h9 H => ?_)
      have e0 := H.getP 0 rfl
      simp (maxSteps := 4000000) -implicitDefEqProofs (disch := omega) only [push_cast, Nat.reduceAdd, Nat.reduceLeDiff, Nat.reduceMul, Nat.reduceSub, Nat.reduceLT, Nat.reduceEqDiff, Int.reduceAdd, Int.reduceSub, Int.reduceLE, Int.reduceLT, Int.reduceEq, Int.reduceNe, Int.reduceToNat, Int.reduceNeg, reduceIte, reduceCtorEq, penOf, apend, c1, e0]
      refine calls_lw (fun h => styluslaw33_row.ok hm h) (fun _ => rfl) ⟨Lent.refl _ _, H.lent 3 rfl, trivial⟩ (fun r5 hm => ?_)
      have e0 := H.getP 0 rfl
      simp (maxSteps := 4000000) -implicitDefEqProofs (disch := omega) only [push_cast, Nat.reduceAdd, Nat.reduceLeDiff, Nat.reduceMul, Nat.reduceSub, Nat.reduceLT, Nat.reduceEqDiff, Int.reduceAdd, Int.reduceSub, Int.reduceLE, Int.reduceLT, Int.reduceEq, Int.reduceNe, Int.reduceToNat, Int.reduceNeg, reduceIte, reduceCtorEq, penOf, apend, c1, e0]
      rw [gfork_bool]
      refine ⟨fun c2 => ?_, fun c2 => ?_⟩
      · replace hm := ifp hm c2
        have e0 := H.getP 0 rfl
        simp (maxSteps := 4000000) -implicitDefEqProofs (disch := omega) only [push_cast, Nat.reduceAdd, Nat.reduceLeDiff, Nat.reduceMul, Nat.reduceSub, Nat.reduceLT, Nat.reduceEqDiff, Int.reduceAdd, Int.reduceSub, Int.reduceLE, Int.reduceLT, Int.reduceEq, Int.reduceNe, Int.reduceToNat, Int.reduceNeg, reduceIte, reduceCtorEq, penOf, apend, c1, c2, e0]
        refine calls_w (fun h => seek_At.ok hm h) (fun r6 hm => ?_)
        have e0 := H.getP 0 rfl
        simp (maxSteps := 4000000) -implicitDefEqProofs (disch := omega) only [push_cast, Nat.reduceAdd, Nat.reduceLeDiff, Nat.reduceMul, Nat.reduceSub, Nat.reduceLT, Nat.reduceEqDiff, Int.reduceAdd, Int.reduceSub, Int.reduceLE, Int.reduceLT, Int.reduceEq, Int.reduceNe, Int.reduceToNat, Int.reduceNeg, reduceIte, reduceCtorEq, penOf, apend, c1, c2, e0]
        rw [gfork_cond]
        refine ⟨fun c3 => ?_, fun c3 => ?_⟩
        · replace hm := ifp hm c3
          have e0 := H.getP 0 rfl
          simp (maxSteps := 4000000) -implicitDefEqProofs (disch := omega) only [push_cast, Nat.reduceAdd, Nat.reduceLeDiff, Nat.reduceMul, Nat.reduceSub, Nat.reduceLT, Nat.reduceEqDiff, Int.reduceAdd, Int.reduceSub, Int.reduceLE, Int.reduceLT, Int.reduceEq, Int.reduceNe, Int.reduceToNat, Int.reduceNeg, reduceIte, reduceCtorEq, penOf, apend, c1, c2, eq_true c3, e0]
          refine calls_w (fun h => seek_At.ok hm h) (fun r7 hm => ?_)
          have e0 := H.getP 0 rfl
          simp (maxSteps := 4000000) -implicitDefEqProofs (disch := omega) only [push_cast, Nat.reduceAdd, Nat.reduceLeDiff, Nat.reduceMul, Nat.reduceSub, Nat.reduceLT, Nat.reduceEqDiff, Int.reduceAdd, Int.reduceSub, Int.reduceLE, Int.reduceLT, Int.reduceEq, Int.reduceNe, Int.reduceToNat, Int.reduceNeg, reduceIte, reduceCtorEq, penOf, apend, c1, c2, eq_true c3, e0]
          rw [gfork_cond]
          refine ⟨fun c4 => ?_, fun c4 => ?_⟩
          · replace hm := ifp hm c4
            have e0 := H.getP 0 rfl
            simp (maxSteps := 4000000) -implicitDefEqProofs (disch := omega) only [push_cast, Nat.reduceAdd, Nat.reduceLeDiff, Nat.reduceMul, Nat.reduceSub, Nat.reduceLT, Nat.reduceEqDiff, Int.reduceAdd, Int.reduceSub, Int.reduceLE, Int.reduceLT, Int.reduceEq, Int.reduceNe, Int.reduceToNat, Int.reduceNeg, reduceIte, reduceCtorEq, penOf, apend, c1, c2, eq_true c3, eq_true c4, e0]
            refine calls_w (fun h => seek_Index.ok hm h) (fun r8 hm => ?_)
            have e0 := H.getP 0 rfl
            simp (maxSteps := 4000000) -implicitDefEqProofs (disch := omega) only [push_cast, Nat.reduceAdd, Nat.reduceLeDiff, Nat.reduceMul, Nat.reduceSub, Nat.reduceLT, Nat.reduceEqDiff, Int.reduceAdd, Int.reduceSub, Int.reduceLE, Int.reduceLT, Int.reduceEq, Int.reduceNe, Int.reduceToNat, Int.reduceNeg, reduceIte, reduceCtorEq, penOf, apend, c1, c2, eq_true c3, eq_true c4, e0]
            refine H.newL (E := AM.encStr) ([(ByteArray.mk #[110, 101]), (ByteArray.mk #[111]), (ByteArray.mk #[111, 110, 101]), (ByteArray.mk #[116, 119, 111])] : List ByteArray) rfl rfl (fun b5 h10 H => ?_)
            have e0 := H.getP 0 rfl
            simp (maxSteps := 4000000) -implicitDefEqProofs (disch := omega) only [push_cast, Nat.reduceAdd, Nat.reduceLeDiff, Nat.reduceMul, Nat.reduceSub, Nat.reduceLT, Nat.reduceEqDiff, Int.reduceAdd, Int.reduceSub, Int.reduceLE, Int.reduceLT, Int.reduceEq, Int.reduceNe, Int.reduceToNat, Int.reduceNeg, reduceIte, reduceCtorEq, penOf, apend, c1, c2, eq_true c3, eq_true c4, e0]
            refine calls_lw (fun h => styluslaw33_texts.ok hm h) (fun _ => rfl) ⟨Lent.refl _ _, H.lent 4 rfl, trivial⟩ (fun r9 hm => ?_)
            have e0 := H.getP 0 rfl
            simp (maxSteps := 4000000) -implicitDefEqProofs (disch := omega) only [push_cast, Nat.reduceAdd, Nat.reduceLeDiff, Nat.reduceMul, Nat.reduceSub, Nat.reduceLT, Nat.reduceEqDiff, Int.reduceAdd, Int.reduceSub, Int.reduceLE, Int.reduceLT, Int.reduceEq, Int.reduceNe, Int.reduceToNat, Int.reduceNeg, reduceIte, reduceCtorEq, penOf, apend, c1, c2, eq_true c3, eq_true c4, e0]
            exact retQ_back (.inl rfl) r9 _ rfl (Shift.refl _ _) H.sub hm
          · replace hm := ifn hm c4
            have e0 := H.getP 0 rfl
            simp (maxSteps := 4000000) -implicitDefEqProofs (disch := omega) only [push_cast, Nat.reduceAdd, Nat.reduceLeDiff, Nat.reduceMul, Nat.reduceSub, Nat.reduceLT, Nat.reduceEqDiff, Int.reduceAdd, Int.reduceSub, Int.reduceLE, Int.reduceLT, Int.reduceEq, Int.reduceNe, Int.reduceToNat, Int.reduceNeg, reduceIte, reduceCtorEq, penOf, apend, c1, c2, eq_true c3, eq_false c4, e0]
            exact retQ_back (.inl rfl) false _ rfl (Shift.refl _ _) H.sub hm
        · replace hm := ifn hm c3
          have e0 := H.getP 0 rfl
          simp (maxSteps := 4000000) -implicitDefEqProofs (disch := omega) only [push_cast, Nat.reduceAdd, Nat.reduceLeDiff, Nat.reduceMul, Nat.reduceSub, Nat.reduceLT, Nat.reduceEqDiff, Int.reduceAdd, Int.reduceSub, Int.reduceLE, Int.reduceLT, Int.reduceEq, Int.reduceNe, Int.reduceToNat, Int.reduceNeg, reduceIte, reduceCtorEq, penOf, apend, c1, c2, eq_false c3, e0]
          exact retQ_back (.inl rfl) false _ rfl (Shift.refl _ _) H.sub hm
      · replace hm := ifn hm (by rw [c2]; exact Bool.false_ne_true)
        have e0 := H.getP 0 rfl
        simp (maxSteps := 4000000) -implicitDefEqProofs (disch := omega) only [push_cast, Nat.reduceAdd, Nat.reduceLeDiff, Nat.reduceMul, Nat.reduceSub, Nat.reduceLT, Nat.reduceEqDiff, Int.reduceAdd, Int.reduceSub, Int.reduceLE, Int.reduceLT, Int.reduceEq, Int.reduceNe, Int.reduceToNat, Int.reduceNeg, reduceIte, reduceCtorEq, penOf, apend, c1, c2, e0]
        exact retQ_back (.inl rfl) false _ rfl (Shift.refl _ _) H.sub hm
    · replace hm := ifn hm (by rw [c1]; exact Bool.false_ne_true)
      have e0 := H.getP 0 rfl
      simp (maxSteps := 4000000) -implicitDefEqProofs (disch := omega) only [push_cast, Nat.reduceAdd, Nat.reduceLeDiff, Nat.reduceMul, Nat.reduceSub, Nat.reduceLT, Nat.reduceEqDiff, Int.reduceAdd, Int.reduceSub, Int.reduceLE, Int.reduceLT, Int.reduceEq, Int.reduceNe, Int.reduceToNat, Int.reduceNeg, reduceIte, reduceCtorEq, penOf, apend, c1, e0]
      exact retQ_back (.inl rfl) false _ rfl (Shift.refl _ _) H.sub hm
end Go.Proofs.Ytnenodamppageaa
