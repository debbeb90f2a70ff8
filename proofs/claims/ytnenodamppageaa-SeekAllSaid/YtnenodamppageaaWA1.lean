/- Functions of the program: code, what is asked for their answers, the walk (printed by pr.py). -/
import Derived.Test.YtnenodamppageaaWA0
namespace Go.Proofs.Ytnenodamppageaa
open Go Go.Proofs.Ytnenodamppageaa.AM
set_option maxRecDepth 100000
set_option linter.unusedSimpArgs false
set_option linter.unusedVariables false
set_option maxHeartbeats 4000000
/-! stylus/seek.Words$1 -/
abbrev n_seek_Words_1 : Nat := 21
noncomputable def code_seek_Words_1 : Code := match Try.f21.body with | some c => c | none => .skip
def ann_seek_Words_1 : Nat → Ann
  | _ => {}
noncomputable def ac_seek_Words_1_c2 : AC :=
  (.seq (.reg [⟨some 11, (Op.move (Operand.tmp 4)), none, false⟩, ⟨some 12, (Op.load 22 (Operand.tmp 1)), none, false⟩, ⟨some 13, (Op.call (Call.mk (Callee.builtin Builtin.len) #[(Operand.tmp 12)] #[22])), none, false⟩, ⟨some 14, (Op.binOp BinOp.lss 3 (Operand.tmp 11) (Operand.tmp 13) 3), none, false⟩, ⟨some 15, (Op.move (Operand.tmp 14)), none, false⟩, ⟨some 16, (Op.load 22 (Operand.tmp 1)), (some (some 15, true)), false⟩, ⟨some 17, (Op.move (Operand.tmp 4)), (some (some 15, true)), false⟩, ⟨some 18, (Op.indexAddr 22 (Operand.tmp 16) (Operand.tmp 17)), (some (some 15, true)), false⟩, ⟨some 19, (Op.load 38 (Operand.tmp 18)), (some (some 15, true)), false⟩, ⟨some 20, (Op.call (Call.mk (Callee.value (Operand.func 22)) #[(Operand.tmp 19)] #[38])), (some (some 15, true)), false⟩, ⟨some 21, (Op.pick (Operand.tmp 15) (Operand.tmp 20) (Operand.const (Value.bool false))), none, false⟩]) (.cond (Operand.tmp 21) (.seq (.reg [⟨some 22, (Op.move (Operand.tmp 3)), none, false⟩, ⟨some 23, (Op.load 22 (Operand.tmp 1)), none, false⟩, ⟨some 24, (Op.move (Operand.tmp 4)), none, false⟩, ⟨some 25, (Op.indexAddr 22 (Operand.tmp 23) (Operand.tmp 24)), none, false⟩, ⟨some 26, (Op.fieldAddr 38 (Operand.tmp 25) 1), none, false⟩, ⟨some 27, (Op.load 5 (Operand.tmp 26)), none, false⟩, ⟨some 28, (Op.buildSlice 47 1 #[(0, (Operand.tmp 27))]), none, false⟩, ⟨some 29, (Op.convert 47 9 (Operand.tmp 28)), none, false⟩, ⟨some 30, (Op.binOp BinOp.add 9 (Operand.tmp 22) (Operand.tmp 29) 9), none, false⟩, ⟨some 3, (Op.assign (Operand.tmp 30)), none, false⟩]) (.exit 1)) .skip))
noncomputable def ac_seek_Words_1_c1 : AC :=
  (.seq (.block 1 (.seq ac_seek_Words_1_c2 (.seq (.seq (.reg [⟨some 31, (Op.move (Operand.tmp 3)), none, false⟩, ⟨some 32, (Op.binOp BinOp.neq 9 (Operand.tmp 31) (Operand.const (Value.string (ByteArray.mk #[]))) 9), none, false⟩, ⟨some 33, (Op.move (Operand.tmp 32)), none, false⟩, ⟨some 34, (Op.move (Operand.tmp 0)), (some (some 33, true)), false⟩, ⟨some 35, (Op.move (Operand.tmp 4)), (some (some 33, true)), false⟩, ⟨some 36, (Op.move (Operand.tmp 3)), (some (some 33, true)), false⟩, ⟨some 37, (Op.call (Call.mk (Callee.builtin Builtin.len) #[(Operand.tmp 36)] #[9])), (some (some 33, true)), false⟩, ⟨some 38, (Op.binOp BinOp.sub 3 (Operand.tmp 35) (Operand.tmp 37) 3), (some (some 33, true)), false⟩, ⟨some 39, (Op.move (Operand.tmp 3)), (some (some 33, true)), false⟩, ⟨some 40, (Op.call (Call.mk (Callee.value (Operand.tmp 34)) #[(Operand.tmp 38), (Operand.tmp 39)] #[3, 9])), (some (some 33, true)), false⟩, ⟨some 41, (Op.unOp UnOp.not 4 (Operand.tmp 40)), (some (some 33, true)), false⟩, ⟨some 42, (Op.pick (Operand.tmp 33) (Operand.tmp 41) (Operand.const (Value.bool false))), none, false⟩]) (.cond (Operand.tmp 42) .ret .skip)) (.reg [⟨some 3, (Op.assign (Operand.const (Value.string (ByteArray.mk #[])))), none, false⟩])))) (.reg [⟨some 9, (Op.move (Operand.tmp 4)), none, false⟩, ⟨some 10, (Op.binOp BinOp.add 3 (Operand.tmp 9) (Operand.const (Value.int IntKind.i64 1)) 3), none, false⟩, ⟨some 4, (Op.assign (Operand.tmp 10)), none, false⟩]))
noncomputable def ac_seek_Words_1 : AC :=
  (.seq (.reg [⟨some 3, (Op.assign (Operand.const (Value.string (ByteArray.mk #[])))), none, false⟩]) (.seq (.reg [⟨some 4, (Op.assign (Operand.const (Value.int IntKind.i64 0))), none, false⟩]) (.block 0 (.loop (.seq (.seq (.reg [⟨some 5, (Op.move (Operand.tmp 4)), none, false⟩, ⟨some 6, (Op.load 22 (Operand.tmp 1)), none, false⟩, ⟨some 7, (Op.call (Call.mk (Callee.builtin Builtin.len) #[(Operand.tmp 6)] #[22])), none, false⟩, ⟨some 8, (Op.binOp BinOp.leq 3 (Operand.tmp 5) (Operand.tmp 7) 3), none, false⟩]) (.cond (Operand.tmp 8) .skip (.exit 0))) ac_seek_Words_1_c1)))))
theorem body_seek_Words_1 : Try.f21.body = some code_seek_Words_1 := by kernel_rfl
theorem slim_seek_Words_1 : slim ann_seek_Words_1 code_seek_Words_1 = some ac_seek_Words_1 := by kernel_rfl
theorem name_seek_Words_1 : (Try.f21.name == "runtime.NumGoroutine") = false := by kernel_rfl
theorem enter_seek_Words_1 {args : List AV} {h : Hp} {Q : AE → Hp → Prop} (H : awp Try.prog tab ac_seek_Words_1 (retQ tab [] Q) ⟨args ++ List.replicate (43 - args.length) .any, h⟩) : ACalls Try.prog 21 args h Q :=
  acalls_of tab_ok mixed Try.func21 body_seek_Words_1 name_seek_Words_1 slim_seek_Words_1 rfl Try.ntmps21 H
/-- stylus/seek.Words$1, a loop over it -/
def seek_Words_1_i0.w {σ : Type} (Y : (Int × ByteArray) → σ → (Bool → σ → Prop) → Prop) (a0_ : List ApiTok) (s0 : σ) (Q : σ → Prop) : Prop :=
  wloop (σ := σ × ByteArray × Int) (fun ⟨s1, a1, a2⟩ next1 =>
    if a2 ≤ (a0_.length : Int) then
      wcut (α := σ × ByteArray) (fun k1 =>
        wcut (α := σ × Bool) (fun k2 =>
          if a2 < (a0_.length : Int) then
            (0 ≤ a2) ∧
            ∃ v1 : ApiTok, a0_[a2.toNat]? = some v1 ∧
            seek_letter.w v1 (fun r1 =>
              k2 (s1, r1))
          else
            k2 (s1, false)) (fun ⟨s3, a4⟩ =>
          if a4 = true then
            (0 ≤ a2) ∧
            ∃ v2 : ApiTok, a0_[a2.toNat]? = some v2 ∧
            (a1.size + (ofBytes ([v2.Ch] : List Int)).size ≤ 9223372036854775807) ∧
            k1 (s3, a1 ++ (ofBytes ([v2.Ch] : List Int)))
          else
            if a1 = (ByteArray.mk #[]) then
              k1 (s3, (ByteArray.mk #[]))
            else
              (I64 (a2 - (a1.size : Int))) ∧
              Y (a2 - (a1.size : Int), a1) s3 (fun r2 s4 =>
                if (!r2) = true then
                  Q s4
                else
                  k1 (s4, (ByteArray.mk #[]))))) (fun ⟨s2, a3⟩ =>
        (I64 (a2 + 1)) ∧
        next1 (s2, a3, a2 + 1))
    else
      Q s1) (s0, (ByteArray.mk #[]), 0)
theorem seek_Words_1_i0.ok {a0_ : List ApiTok} {σ : Type} {Y : (Int × ByteArray) → σ → (Bool → σ → Prop) → Prop} {s0 : σ} {Q : σ → Prop} (hm : seek_Words_1_i0.w Y a0_ s0 Q) {gb : Gh} {l : Nat} {R : σ → Hp → Prop} {F hr h0 : Hp} (hY : AM.Yields Try.prog gb l (fun x => [(aint x.1), (astr x.2)]) R Y) (hR : R s0 hr) (hS : Spl F hr h0) : ACalls Try.prog n_seek_Words_1 (.yld l gb :: [(.iptr [(.isl 3 (a0_.map ApiTok.enc))] 0)]) h0 (fun e h' => (∃ x, e = .ret x) ∧ ∃ s' hr', R s' hr' ∧ Spl F hr' h' ∧ Q s') := by
  refine enter_seek_Words_1 ?_
  unfold seek_Words_1_i0.w at hm
  have H := AM.Own.nil h0
  simp (maxSteps := 4000000) -implicitDefEqProofs (disch := omega) only [push_cast, Nat.reduceAdd, Nat.reduceLeDiff, Nat.reduceMul, Nat.reduceSub, Nat.reduceLT, Nat.reduceEqDiff, Int.reduceAdd, Int.reduceSub, Int.reduceLE, Int.reduceLT, Int.reduceEq, Int.reduceNe, Int.reduceToNat, Int.reduceNeg, reduceIte, reduceCtorEq, ac_seek_Words_1]
  obtain ⟨inv1, mu1, hi1, hs1⟩ := hm
  replace H := H.perm [] (by decide)
  refine awp_loop (σ := (σ × ByteArray × Int) × Hp × Hp × Hp) (fun ⟨⟨s1, a1, a2⟩, hr1, hb1, h1⟩ => ⟨((((List.replicate 43 AV.any).set 0 (.yld l gb)).set 1 (.iptr [(.isl 3 (a0_.map ApiTok.enc))] 0)).set 3 (astr a1)).set 4 (aint a2), h1⟩) (fun ⟨⟨s1, a1, a2⟩, hr1, hb1, h1⟩ => inv1 (s1, a1, a2) ∧ R s1 hr1 ∧ Spl F hr1 hb1 ∧ AM.Own hb1 h1 []) (fun ⟨⟨s1, a1, a2⟩, hr1, hb1, h1⟩ => mu1 (s1, a1, a2)) ⟨(s0, (ByteArray.mk #[]), 0), hr, h0, h0⟩ (Retell.weak (by simp [Weak, push_cast]) (Hp.sub.refl _)) ⟨hi1, hR, hS, H⟩ ?_
  rintro ⟨⟨s1, a1, a2⟩, hr1, hb1, h1⟩ ⟨hi1, hR, hS, H⟩
  have hm := hs1 _ hi1
  dsimp only at hm H ⊢
  simp (maxSteps := 4000000) -implicitDefEqProofs (disch := omega) only [push_cast, Nat.reduceAdd, Nat.reduceLeDiff, Nat.reduceMul, Nat.reduceSub, Nat.reduceLT, Nat.reduceEqDiff, Int.reduceAdd, Int.reduceSub, Int.reduceLE, Int.reduceLT, Int.reduceEq, Int.reduceNe, Int.reduceToNat, Int.reduceNeg, reduceIte, reduceCtorEq]
  rw [fork_cond]
  refine ⟨fun c1 => ?_, fun c1 => ?_⟩
  · replace hm := ifp hm c1
    simp (maxSteps := 4000000) -implicitDefEqProofs (disch := omega) only [push_cast, Nat.reduceAdd, Nat.reduceLeDiff, Nat.reduceMul, Nat.reduceSub, Nat.reduceLT, Nat.reduceEqDiff, Int.reduceAdd, Int.reduceSub, Int.reduceLE, Int.reduceLT, Int.reduceEq, Int.reduceNe, Int.reduceToNat, Int.reduceNeg, reduceIte, reduceCtorEq, eq_true c1]
    obtain ⟨k1, hm, hk1⟩ := wcut_elim hm
    refine awp_cut (fun s' => ∃ (s2 : σ) (a3 : ByteArray) (hr2 : Hp) (hb2 : Hp) (h2 : Hp), Like s'.tm (((((List.replicate 43 none).set 0 (some (.yld l gb))).set 1 (some (.iptr [(.isl 3 (a0_.map ApiTok.enc))] 0))).set 3 (some (astr a3))).set 4 (some (aint a2))) ∧ s'.h = h2 ∧ R s2 hr2 ∧ Spl F hr2 hb2 ∧ AM.Own hb2 h2 [] ∧ k1 (s2, a3)) ?_ ?_
    · simp (maxSteps := 4000000) -implicitDefEqProofs (disch := omega) only [push_cast, Nat.reduceAdd, Nat.reduceLeDiff, Nat.reduceMul, Nat.reduceSub, Nat.reduceLT, Nat.reduceEqDiff, Int.reduceAdd, Int.reduceSub, Int.reduceLE, Int.reduceLT, Int.reduceEq, Int.reduceNe, Int.reduceToNat, Int.reduceNeg, reduceIte, reduceCtorEq, eq_true c1]
      obtain ⟨k2, hm, hk2⟩ := wcut_elim hm
      refine awp_cut (fun s' => ∃ (s3 : σ) (a4 : Bool) (hr3 : Hp) (hb3 : Hp) (h3 : Hp), Like s'.tm ((((((List.replicate 43 none).set 0 (some (.yld l gb))).set 1 (some (.iptr [(.isl 3 (a0_.map ApiTok.enc))] 0))).set 3 (some (astr a1))).set 4 (some (aint a2))).set 21 (some (abool a4))) ∧ s'.h = h3 ∧ R s3 hr3 ∧ Spl F hr3 hb3 ∧ AM.Own hb3 h3 [] ∧ k2 (s3, a4)) ?_ ?_
      · simp (maxSteps := 4000000) -implicitDefEqProofs (disch := omega) only [push_cast, Nat.reduceAdd, Nat.reduceLeDiff, Nat.reduceMul, Nat.reduceSub, Nat.reduceLT, Nat.reduceEqDiff, Int.reduceAdd, Int.reduceSub, Int.reduceLE, Int.reduceLT, Int.reduceEq, Int.reduceNe, Int.reduceToNat, Int.reduceNeg, reduceIte, reduceCtorEq, eq_true c1]
        rw [gfork_cond]
        refine ⟨fun c2 => ?_, fun c2 => ?_⟩
        · replace hm := ifp hm c2
          obtain ⟨z1, hm⟩ := hm
          obtain ⟨v1, i1, hm⟩ := hm
          simp (maxSteps := 4000000) -implicitDefEqProofs (disch := omega) only [push_cast, Nat.reduceAdd, Nat.reduceLeDiff, Nat.reduceMul, Nat.reduceSub, Nat.reduceLT, Nat.reduceEqDiff, Int.reduceAdd, Int.reduceSub, Int.reduceLE, Int.reduceLT, Int.reduceEq, Int.reduceNe, Int.reduceToNat, Int.reduceNeg, reduceIte, reduceCtorEq, eq_true c1, eq_true c2, eq_true z1, i1]
          refine calls_w (fun h => seek_letter.ok hm h) (fun r1 hm => ?_)
          simp (maxSteps := 4000000) -implicitDefEqProofs (disch := omega) only [push_cast, Nat.reduceAdd, Nat.reduceLeDiff, Nat.reduceMul, Nat.reduceSub, Nat.reduceLT, Nat.reduceEqDiff, Int.reduceAdd, Int.reduceSub, Int.reduceLE, Int.reduceLT, Int.reduceEq, Int.reduceNe, Int.reduceToNat, Int.reduceNeg, reduceIte, reduceCtorEq, eq_true c1, eq_true c2, eq_true z1, i1]
          replace H := H.perm [] (by decide)
          exact ⟨s1, r1, hr1, hb1, h1, by simp [Like, push_cast], rfl, hR, hS, H, hm⟩
        · replace hm := ifn hm c2
          simp (maxSteps := 4000000) -implicitDefEqProofs (disch := omega) only [push_cast, Nat.reduceAdd, Nat.reduceLeDiff, Nat.reduceMul, Nat.reduceSub, Nat.reduceLT, Nat.reduceEqDiff, Int.reduceAdd, Int.reduceSub, Int.reduceLE, Int.reduceLT, Int.reduceEq, Int.reduceNe, Int.reduceToNat, Int.reduceNeg, reduceIte, reduceCtorEq, eq_true c1, eq_false c2]
          replace H := H.perm [] (by decide)
          exact ⟨s1, false, hr1, hb1, h1, by simp [Like, push_cast], rfl, hR, hS, H, hm⟩
      · rintro ⟨tm, h3⟩ ⟨s3, a4, hr3, hb3, _, hL, rfl, hR, hS, H, hm⟩
        dsimp only at hL H
        obtain ⟨D, rfl⟩ := hL.fill 0
        replace hm := hk2 _ hm
        simp (maxSteps := 4000000) -implicitDefEqProofs (disch := omega) only [push_cast, Nat.reduceAdd, Nat.reduceLeDiff, Nat.reduceMul, Nat.reduceSub, Nat.reduceLT, Nat.reduceEqDiff, Int.reduceAdd, Int.reduceSub, Int.reduceLE, Int.reduceLT, Int.reduceEq, Int.reduceNe, Int.reduceToNat, Int.reduceNeg, reduceIte, reduceCtorEq, eq_true c1]
        rw [fork_bool]
        refine ⟨fun c3 => ?_, fun c3 => ?_⟩
        · replace hm := ifp hm c3
          obtain ⟨z2, hm⟩ := hm
          obtain ⟨v2, i2, hm⟩ := hm
          simp (maxSteps := 4000000) -implicitDefEqProofs (disch := omega) only [push_cast, Nat.reduceAdd, Nat.reduceLeDiff, Nat.reduceMul, Nat.reduceSub, Nat.reduceLT, Nat.reduceEqDiff, Int.reduceAdd, Int.reduceSub, Int.reduceLE, Int.reduceLT, Int.reduceEq, Int.reduceNe, Int.reduceToNat, Int.reduceNeg, reduceIte, reduceCtorEq, eq_true c1, c3, eq_true z2, i2]
          refine H.newL (E := encU8) ([v2.Ch] : List Int) rfl rfl (fun b1 h4 H => ?_)
          obtain ⟨w1, hm⟩ := hm
          simp (maxSteps := 4000000) -implicitDefEqProofs (disch := omega) only [push_cast, Nat.reduceAdd, Nat.reduceLeDiff, Nat.reduceMul, Nat.reduceSub, Nat.reduceLT, Nat.reduceEqDiff, Int.reduceAdd, Int.reduceSub, Int.reduceLE, Int.reduceLT, Int.reduceEq, Int.reduceNe, Int.reduceToNat, Int.reduceNeg, reduceIte, reduceCtorEq, eq_true c1, c3, eq_true z2, i2, eq_true w1, H.text 0 rfl tab_47 tab_9 tab_5]
          replace H := H.perm [] (by decide)
          exact ⟨s3, a1 ++ (ofBytes ([v2.Ch] : List Int)), hr3, hb3, h4, by simp [Like, push_cast], rfl, hR, hS, H, hm⟩
        · replace hm := ifn hm (by rw [c3]; exact Bool.false_ne_true)
          simp (maxSteps := 4000000) -implicitDefEqProofs (disch := omega) only [push_cast, Nat.reduceAdd, Nat.reduceLeDiff, Nat.reduceMul, Nat.reduceSub, Nat.reduceLT, Nat.reduceEqDiff, Int.reduceAdd, Int.reduceSub, Int.reduceLE, Int.reduceLT, Int.reduceEq, Int.reduceNe, Int.reduceToNat, Int.reduceNeg, reduceIte, reduceCtorEq, eq_true c1, c3]
          rw [gfork_cond]
          refine ⟨fun c4 => ?_, fun c4 => ?_⟩
          · replace hm := ifn hm c4
            obtain ⟨w2, hm⟩ := hm
            simp (maxSteps := 4000000) -implicitDefEqProofs (disch := omega) only [push_cast, Nat.reduceAdd, Nat.reduceLeDiff, Nat.reduceMul, Nat.reduceSub, Nat.reduceLT, Nat.reduceEqDiff, Int.reduceAdd, Int.reduceSub, Int.reduceLE, Int.reduceLT, Int.reduceEq, Int.reduceNe, Int.reduceToNat, Int.reduceNeg, reduceIte, reduceCtorEq, eq_true c1, c3, eq_false c4, wrap_i64 _ w2]
            refine yields_of hY hR hS H (a2 - (a1.size : Int), a1) rfl hm (fun r2 s4 hr4 hb4 h5 hR hS H hm => ?_)
            simp (maxSteps := 4000000) -implicitDefEqProofs (disch := omega) only [push_cast, Nat.reduceAdd, Nat.reduceLeDiff, Nat.reduceMul, Nat.reduceSub, Nat.reduceLT, Nat.reduceEqDiff, Int.reduceAdd, Int.reduceSub, Int.reduceLE, Int.reduceLT, Int.reduceEq, Int.reduceNe, Int.reduceToNat, Int.reduceNeg, reduceIte, reduceCtorEq, eq_true c1, c3, eq_false c4, wrap_i64 _ w2]
            rw [fork_bool]
            refine ⟨fun c5 => ?_, fun c5 => ?_⟩
            · replace hm := ifp hm c5
              simp (maxSteps := 4000000) -implicitDefEqProofs (disch := omega) only [push_cast, Nat.reduceAdd, Nat.reduceLeDiff, Nat.reduceMul, Nat.reduceSub, Nat.reduceLT, Nat.reduceEqDiff, Int.reduceAdd, Int.reduceSub, Int.reduceLE, Int.reduceLT, Int.reduceEq, Int.reduceNe, Int.reduceToNat, Int.reduceNeg, reduceIte, reduceCtorEq, eq_true c1, c3, eq_false c4, wrap_i64 _ w2, c5]
              exact retQ_it (.inl rfl) rfl H.sub ⟨⟨_, rfl⟩, s4, hr4, hR, hS, hm⟩
            · replace hm := ifn hm (by rw [c5]; exact Bool.false_ne_true)
              simp (maxSteps := 4000000) -implicitDefEqProofs (disch := omega) only [push_cast, Nat.reduceAdd, Nat.reduceLeDiff, Nat.reduceMul, Nat.reduceSub, Nat.reduceLT, Nat.reduceEqDiff, Int.reduceAdd, Int.reduceSub, Int.reduceLE, Int.reduceLT, Int.reduceEq, Int.reduceNe, Int.reduceToNat, Int.reduceNeg, reduceIte, reduceCtorEq, eq_true c1, c3, eq_false c4, wrap_i64 _ w2, c5]
              replace H := H.perm [] (by decide)
              exact ⟨s4, (ByteArray.mk #[]), hr4, hb4, h5, by simp [Like, push_cast], rfl, hR, hS, H, hm⟩
          · replace c4 := Decidable.not_not.1 c4
            replace hm := ifp hm c4
            simp (maxSteps := 4000000) -implicitDefEqProofs (disch := omega) only [push_cast, Nat.reduceAdd, Nat.reduceLeDiff, Nat.reduceMul, Nat.reduceSub, Nat.reduceLT, Nat.reduceEqDiff, Int.reduceAdd, Int.reduceSub, Int.reduceLE, Int.reduceLT, Int.reduceEq, Int.reduceNe, Int.reduceToNat, Int.reduceNeg, reduceIte, reduceCtorEq, eq_true c1, c3, eq_true c4]
            replace H := H.perm [] (by decide)
            exact ⟨s3, (ByteArray.mk #[]), hr3, hb3, h3, by simp [Like, push_cast], rfl, hR, hS, H, hm⟩
    · rintro ⟨tm, h2⟩ ⟨s2, a3, hr2, hb2, _, hL, rfl, hR, hS, H, hm⟩
      dsimp only at hL H
      obtain ⟨D, rfl⟩ := hL.fill 0
      replace hm := hk1 _ hm
      obtain ⟨w3, hm⟩ := hm
      simp (maxSteps := 4000000) -implicitDefEqProofs (disch := omega) only [push_cast, Nat.reduceAdd, Nat.reduceLeDiff, Nat.reduceMul, Nat.reduceSub, Nat.reduceLT, Nat.reduceEqDiff, Int.reduceAdd, Int.reduceSub, Int.reduceLE, Int.reduceLT, Int.reduceEq, Int.reduceNe, Int.reduceToNat, Int.reduceNeg, reduceIte, reduceCtorEq, eq_true c1, wrap_i64 _ w3]
      replace H := H.perm [] (by decide)
      exact ⟨⟨(s2, a3, a2 + 1), hr2, hb2, h2⟩, hm.2, ⟨hm.1, hR, hS, H⟩, Retell.weak (by simp [Weak, push_cast]) (Hp.sub.refl _)⟩
  · replace hm := ifn hm c1
    simp (maxSteps := 4000000) -implicitDefEqProofs (disch := omega) only [push_cast, Nat.reduceAdd, Nat.reduceLeDiff, Nat.reduceMul, Nat.reduceSub, Nat.reduceLT, Nat.reduceEqDiff, Int.reduceAdd, Int.reduceSub, Int.reduceLE, Int.reduceLT, Int.reduceEq, Int.reduceNe, Int.reduceToNat, Int.reduceNeg, reduceIte, reduceCtorEq, eq_false c1]
    exact retQ_it (.inr rfl) rfl H.sub ⟨⟨_, rfl⟩, s1, hr1, hR, hS, hm⟩
/-! stylus/chars.Lower -/
abbrev n_chars_Lower : Nat := 18
noncomputable def code_chars_Lower : Code := match Try.f18.body with | some c => c | none => .skip
def ann_chars_Lower : Nat → Ann
  | _ => {}
noncomputable def ac_chars_Lower : AC :=
  (.seq (.reg [⟨some 2, (Op.assign (Operand.const (Value.int IntKind.u8 0))), none, false⟩]) (.seq (.seq (.reg [⟨some 3, (Op.move (Operand.tmp 0)), none, false⟩, ⟨some 4, (Op.call (Call.mk (Callee.value (Operand.func 26)) #[(Operand.tmp 3)] #[5])), none, false⟩, ⟨some 5, (Op.binOp BinOp.eql 3 (Operand.tmp 4) (Operand.const (Value.int IntKind.i64 2)) 3), none, false⟩]) (.cond (Operand.tmp 5) (.seq (.reg [⟨some 6, (Op.move (Operand.tmp 0)), none, false⟩, ⟨some 7, (Op.binOp BinOp.or 5 (Operand.tmp 6) (Operand.const (Value.int IntKind.u8 32)) 5), none, false⟩, ⟨some 2, (Op.assign (Operand.tmp 7)), none, false⟩]) .ret) .skip)) (.seq (.reg [⟨some 8, (Op.move (Operand.tmp 0)), none, false⟩, ⟨some 2, (Op.assign (Operand.tmp 8)), none, false⟩]) .ret)))
theorem body_chars_Lower : Try.f18.body = some code_chars_Lower := by kernel_rfl
theorem slim_chars_Lower : slim ann_chars_Lower code_chars_Lower = some ac_chars_Lower := by kernel_rfl
theorem name_chars_Lower : (Try.f18.name == "runtime.NumGoroutine") = false := by kernel_rfl
theorem enter_chars_Lower {args : List AV} {h : Hp} {Q : AE → Hp → Prop} (H : awp Try.prog tab ac_chars_Lower (retQ tab [(ResultVar.tmp 2)] Q) ⟨args ++ List.replicate (9 - args.length) .any, h⟩) : ACalls Try.prog 18 args h Q :=
  acalls_of tab_ok mixed Try.func18 body_chars_Lower name_chars_Lower slim_chars_Lower rfl Try.ntmps18 H
/-- stylus/chars.Lower -/
def chars_Lower.w (a0_ : Int) (Q : Int → Prop) : Prop :=
  chars_Class.w a0_ (fun r1 =>
    if r1 = 2 then
      Q (ior .u8 a0_ 32)
    else
      Q a0_)
theorem chars_Lower.ok {a0_ : Int} {Q : Int → Prop} (hm : chars_Lower.w a0_ Q) (h0 : Hp) : ACalls Try.prog n_chars_Lower [(.val (.int .u8 a0_))] h0 (Back h0 (fun r => (.val (.int .u8 r))) Q) := by
  refine enter_chars_Lower ?_
  unfold chars_Lower.w at hm
  have H := AM.Own.nil h0
  simp (maxSteps := 4000000) -implicitDefEqProofs (disch := omega) only [push_cast, Nat.reduceAdd, Nat.reduceLeDiff, Nat.reduceMul, Nat.reduceSub, Nat.reduceLT, Nat.reduceEqDiff, Int.reduceAdd, Int.reduceSub, Int.reduceLE, Int.reduceLT, Int.reduceEq, Int.reduceNe, Int.reduceToNat, Int.reduceNeg, reduceIte, reduceCtorEq, ac_chars_Lower]
  refine calls_w (fun h => chars_Class.ok hm h) (fun r1 hm => ?_)
  simp (maxSteps := 4000000) -implicitDefEqProofs (disch := omega) only [push_cast, Nat.reduceAdd, Nat.reduceLeDiff, Nat.reduceMul, Nat.reduceSub, Nat.reduceLT, Nat.reduceEqDiff, Int.reduceAdd, Int.reduceSub, Int.reduceLE, Int.reduceLT, Int.reduceEq, Int.reduceNe, Int.reduceToNat, Int.reduceNeg, reduceIte, reduceCtorEq]
  rw [fork_cond]
  refine ⟨fun c1 => ?_, fun c1 => ?_⟩
  · replace hm := ifp hm c1
    simp (maxSteps := 4000000) -implicitDefEqProofs (disch := omega) only [push_cast, Nat.reduceAdd, Nat.reduceLeDiff, Nat.reduceMul, Nat.reduceSub, Nat.reduceLT, Nat.reduceEqDiff, Int.reduceAdd, Int.reduceSub, Int.reduceLE, Int.reduceLT, Int.reduceEq, Int.reduceNe, Int.reduceToNat, Int.reduceNeg, reduceIte, reduceCtorEq, eq_true c1]
    exact retQ_back (.inl rfl) (ior .u8 a0_ 32) _ rfl (Shift.refl _ _) H.sub hm
  · replace hm := ifn hm c1
    simp (maxSteps := 4000000) -implicitDefEqProofs (disch := omega) only [push_cast, Nat.reduceAdd, Nat.reduceLeDiff, Nat.reduceMul, Nat.reduceSub, Nat.reduceLT, Nat.reduceEqDiff, Int.reduceAdd, Int.reduceSub, Int.reduceLE, Int.reduceLT, Int.reduceEq, Int.reduceNe, Int.reduceToNat, Int.reduceNeg, reduceIte, reduceCtorEq, eq_false c1]
    exact retQ_back (.inl rfl) a0_ _ rfl (Shift.refl _ _) H.sub hm
/-! stylus/chars.Low -/
abbrev n_chars_Low : Nat := 16
noncomputable def code_chars_Low : Code := match Try.f16.body with | some c => c | none => .skip
def ann_chars_Low : Nat → Ann
  | _ => {}
noncomputable def ac_chars_Low : AC :=
  (.seq (.reg [⟨some 2, (Op.assign (Operand.const (Value.string (ByteArray.mk #[])))), none, false⟩]) (.seq (.reg [⟨some 6, (Op.move (Operand.tmp 0)), none, false⟩, ⟨some 7, (Op.convert 9 47 (Operand.tmp 6)), none, false⟩, ⟨some 3, (Op.assign (Operand.tmp 7)), none, false⟩]) (.seq (.seq (.reg [⟨some 8, (Op.move (Operand.tmp 3)), none, false⟩, ⟨some 9, (Op.call (Call.mk (Callee.builtin Builtin.len) #[(Operand.tmp 8)] #[47])), none, false⟩, ⟨some 10, (Op.move (Operand.const (Value.int IntKind.i64 0))), none, false⟩]) (.block 0 (.loop (.seq (.reg [⟨some 11, (Op.binOp BinOp.lss 3 (Operand.tmp 10) (Operand.tmp 9) 3), none, false⟩]) (.seq (.cond (Operand.tmp 11) .skip (.exit 0)) (.seq (.block 1 (.seq (.reg [⟨some 12, (Op.move (Operand.tmp 10)), none, false⟩, ⟨some 13, (Op.indexAddr 47 (Operand.tmp 8) (Operand.tmp 10)), none, false⟩, ⟨some 14, (Op.load 5 (Operand.tmp 13)), none, false⟩, ⟨some 4, (Op.assign (Operand.tmp 12)), none, false⟩, ⟨some 5, (Op.assign (Operand.tmp 14)), none, false⟩]) (.reg [⟨some 15, (Op.move (Operand.tmp 3)), none, false⟩, ⟨some 16, (Op.move (Operand.tmp 4)), none, false⟩, ⟨some 17, (Op.move (Operand.tmp 5)), none, false⟩, ⟨some 18, (Op.call (Call.mk (Callee.value (Operand.func 18)) #[(Operand.tmp 17)] #[5])), none, false⟩, ⟨some 19, (Op.indexAddr 47 (Operand.tmp 15) (Operand.tmp 16)), none, false⟩, ⟨none, (Op.store 5 (Operand.tmp 19) (Operand.tmp 18)), none, false⟩]))) (.reg [⟨some 20, (Op.binOp BinOp.add 3 (Operand.tmp 10) (Operand.const (Value.int IntKind.i64 1)) 3), none, false⟩, ⟨some 10, (Op.move (Operand.tmp 20)), none, false⟩]))))))) (.seq (.reg [⟨some 21, (Op.move (Operand.tmp 3)), none, false⟩, ⟨some 22, (Op.convert 47 9 (Operand.tmp 21)), none, false⟩, ⟨some 2, (Op.assign (Operand.tmp 22)), none, false⟩]) .ret))))
theorem body_chars_Low : Try.f16.body = some code_chars_Low := by kernel_rfl
theorem slim_chars_Low : slim ann_chars_Low code_chars_Low = some ac_chars_Low := by kernel_rfl
theorem name_chars_Low : (Try.f16.name == "runtime.NumGoroutine") = false := by kernel_rfl
theorem enter_chars_Low {args : List AV} {h : Hp} {Q : AE → Hp → Prop} (H : awp Try.prog tab ac_chars_Low (retQ tab [(ResultVar.tmp 2)] Q) ⟨args ++ List.replicate (23 - args.length) .any, h⟩) : ACalls Try.prog 16 args h Q :=
  acalls_of tab_ok mixed Try.func16 body_chars_Low name_chars_Low slim_chars_Low rfl Try.ntmps16 H
/-- stylus/chars.Low -/
def chars_Low.w (a0_ : ByteArray) (Q : ByteArray → Prop) : Prop :=
  wloop (σ := (List Int) × Int) (fun ⟨a1, a2⟩ next1 =>
    if a2 < ((strInts a0_).length : Int) then
      (0 ≤ a2) ∧
      ∃ v1 : Int, a1[a2.toNat]? = some v1 ∧
      chars_Lower.w v1 (fun r1 =>
        (I64 (a2 + 1)) ∧
        next1 (a1.set a2.toNat r1, a2 + 1))
    else
      Q (ofBytes a1)) (strInts a0_, 0)
theorem chars_Low.ok {a0_ : ByteArray} {Q : ByteArray → Prop} (hm : chars_Low.w a0_ Q) (h0 : Hp) : ACalls Try.prog n_chars_Low [(astr a0_)] h0 (Back h0 (fun r => (astr r)) Q) := by
  refine enter_chars_Low ?_
  unfold chars_Low.w at hm
  have H := AM.Own.nil h0
  simp (maxSteps := 4000000) -implicitDefEqProofs (disch := omega) only [push_cast, Nat.reduceAdd, Nat.reduceLeDiff, Nat.reduceMul, Nat.reduceSub, Nat.reduceLT, Nat.reduceEqDiff, Int.reduceAdd, Int.reduceSub, Int.reduceLE, Int.reduceLT, Int.reduceEq, Int.reduceNe, Int.reduceToNat, Int.reduceNeg, reduceIte, reduceCtorEq, ac_chars_Low]
  rw [bytes_new tab_9 tab_47 tab_5]
  refine H.newL (E := encU8) (strInts a0_) rfl (strInts_length _) (fun b1 h1 H => ?_)
  simp (maxSteps := 4000000) -implicitDefEqProofs (disch := omega) only [push_cast, Nat.reduceAdd, Nat.reduceLeDiff, Nat.reduceMul, Nat.reduceSub, Nat.reduceLT, Nat.reduceEqDiff, Int.reduceAdd, Int.reduceSub, Int.reduceLE, Int.reduceLT, Int.reduceEq, Int.reduceNe, Int.reduceToNat, Int.reduceNeg, reduceIte, reduceCtorEq, H.lenE 0 rfl tab_47]
  obtain ⟨inv1, mu1, hi1, hs1⟩ := hm
  replace H := H.perm [0] (by decide)
  refine awp_loop (σ := ((List Int) × Int) × AV × Hp) (fun ⟨⟨a1, a2⟩, x1, h2⟩ => ⟨((((List.replicate 23 AV.any).set 3 x1).set 8 x1).set 9 (aint ((strInts a0_).length : Int))).set 10 (aint a2), h2⟩) (fun ⟨⟨a1, a2⟩, x1, h2⟩ => inv1 (a1, a2) ∧ AM.Own h0 h2 [⟨x1, false, 1, a1.map encU8, some (5, 0)⟩]) (fun ⟨⟨a1, a2⟩, x1, h2⟩ => mu1 (a1, a2)) ⟨(strInts a0_, 0), (.osl b1 1 0 a0_.size), h1⟩ (Retell.weak (by simp [Weak, push_cast]) (Hp.sub.refl _)) ⟨hi1, H⟩ ?_
  rintro ⟨⟨a1, a2⟩, x1, h2⟩ ⟨hi1, H⟩
  have hm := hs1 _ hi1
  dsimp only at hm H ⊢
  simp (maxSteps := 4000000) -implicitDefEqProofs (disch := omega) only [push_cast, Nat.reduceAdd, Nat.reduceLeDiff, Nat.reduceMul, Nat.reduceSub, Nat.reduceLT, Nat.reduceEqDiff, Int.reduceAdd, Int.reduceSub, Int.reduceLE, Int.reduceLT, Int.reduceEq, Int.reduceNe, Int.reduceToNat, Int.reduceNeg, reduceIte, reduceCtorEq]
  rw [fork_cond]
  refine ⟨fun c1 => ?_, fun c1 => ?_⟩
  · replace hm := ifp hm c1
    simp (maxSteps := 4000000) -implicitDefEqProofs (disch := omega) only [push_cast, Nat.reduceAdd, Nat.reduceLeDiff, Nat.reduceMul, Nat.reduceSub, Nat.reduceLT, Nat.reduceEqDiff, Int.reduceAdd, Int.reduceSub, Int.reduceLE, Int.reduceLT, Int.reduceEq, Int.reduceNe, Int.reduceToNat, Int.reduceNeg, reduceIte, reduceCtorEq, eq_true c1]
    obtain ⟨z1, hm⟩ := hm
    obtain ⟨v1, i1, hm⟩ := hm
    obtain ⟨b2, o1, rfl, qb, qc, qd, qe⟩ := H.row (k := a2.toNat) (r := encU8 v1) 0 rfl (by rw [List.getElem?_map, i1]; rfl)
    rw [List.length_map] at qe
    have q1 := qb
    have q2 := qc
    have q3 := qd
    have q4 := eq_true qe
    simp (maxSteps := 4000000) -implicitDefEqProofs (disch := omega) only [push_cast, Nat.reduceAdd, Nat.reduceLeDiff, Nat.reduceMul, Nat.reduceSub, Nat.reduceLT, Nat.reduceEqDiff, Int.reduceAdd, Int.reduceSub, Int.reduceLE, Int.reduceLT, Int.reduceEq, Int.reduceNe, Int.reduceToNat, Int.reduceNeg, reduceIte, reduceCtorEq, eq_true c1, eq_true z1, q1, q2, q3, q4]
    refine calls_w (fun h => chars_Lower.ok hm h) (fun r1 hm => ?_)
    simp (maxSteps := 4000000) -implicitDefEqProofs (disch := omega) only [push_cast, Nat.reduceAdd, Nat.reduceLeDiff, Nat.reduceMul, Nat.reduceSub, Nat.reduceLT, Nat.reduceEqDiff, Int.reduceAdd, Int.reduceSub, Int.reduceLE, Int.reduceLT, Int.reduceEq, Int.reduceNe, Int.reduceToNat, Int.reduceNeg, reduceIte, reduceCtorEq, eq_true c1, eq_true z1, q1, q2, q3, q4]
    refine H.stL 0 r1 rfl i1 rfl rfl rfl (Nat.le_of_ble_eq_true rfl) rfl (fun h3 H => ?_)
    obtain ⟨w1, hm⟩ := hm
    simp (maxSteps := 4000000) -implicitDefEqProofs (disch := omega) only [push_cast, Nat.reduceAdd, Nat.reduceLeDiff, Nat.reduceMul, Nat.reduceSub, Nat.reduceLT, Nat.reduceEqDiff, Int.reduceAdd, Int.reduceSub, Int.reduceLE, Int.reduceLT, Int.reduceEq, Int.reduceNe, Int.reduceToNat, Int.reduceNeg, reduceIte, reduceCtorEq, eq_true c1, eq_true z1, q1, q2, q3, q4, wrap_i64 _ w1]
    replace H := H.perm [0] (by decide)
    exact ⟨⟨(a1.set a2.toNat r1, a2 + 1), (.osl b2 1 0 (a1.map encU8).length), h3⟩, hm.2, ⟨hm.1, H⟩, Retell.weak (by simp [Weak, push_cast]) (Hp.sub.refl _)⟩
  · replace hm := ifn hm c1
    simp (maxSteps := 4000000) -implicitDefEqProofs (disch := omega) only [push_cast, Nat.reduceAdd, Nat.reduceLeDiff, Nat.reduceMul, Nat.reduceSub, Nat.reduceLT, Nat.reduceEqDiff, Int.reduceAdd, Int.reduceSub, Int.reduceLE, Int.reduceLT, Int.reduceEq, Int.reduceNe, Int.reduceToNat, Int.reduceNeg, reduceIte, reduceCtorEq, eq_false c1, H.text 0 rfl tab_47 tab_9 tab_5]
    exact retQ_back (.inl rfl) (ofBytes a1) _ rfl (Shift.refl _ _) H.sub hm
/-! stylus/seek.of -/
abbrev n_seek_of : Nat := 23
noncomputable def code_seek_of : Code := match Try.f23.body with | some c => c | none => .skip
def ann_seek_of : Nat → Ann
  | _ => {}
noncomputable def ac_seek_of : AC :=
  (.seq (.reg [⟨some 2, (Op.assign (Operand.const (Value.string (ByteArray.mk #[])))), none, false⟩]) (.seq (.reg [⟨some 3, (Op.move (Operand.tmp 0)), none, false⟩, ⟨some 4, (Op.call (Call.mk (Callee.value (Operand.func 16)) #[(Operand.tmp 3)] #[9])), none, false⟩, ⟨some 2, (Op.assign (Operand.tmp 4)), none, false⟩]) .ret))
theorem body_seek_of : Try.f23.body = some code_seek_of := by kernel_rfl
theorem slim_seek_of : slim ann_seek_of code_seek_of = some ac_seek_of := by kernel_rfl
theorem name_seek_of : (Try.f23.name == "runtime.NumGoroutine") = false := by kernel_rfl
theorem enter_seek_of {args : List AV} {h : Hp} {Q : AE → Hp → Prop} (H : awp Try.prog tab ac_seek_of (retQ tab [(ResultVar.tmp 2)] Q) ⟨args ++ List.replicate (5 - args.length) .any, h⟩) : ACalls Try.prog 23 args h Q :=
  acalls_of tab_ok mixed Try.func23 body_seek_of name_seek_of slim_seek_of rfl Try.ntmps23 H
/-- stylus/seek.of -/
def seek_of.w (a0_ : ByteArray) (Q : ByteArray → Prop) : Prop :=
  chars_Low.w a0_ (fun r1 =>
    Q r1)
theorem seek_of.ok {a0_ : ByteArray} {Q : ByteArray → Prop} (hm : seek_of.w a0_ Q) (h0 : Hp) : ACalls Try.prog n_seek_of [(astr a0_)] h0 (Back h0 (fun r => (astr r)) Q) := by
  refine enter_seek_of ?_
  unfold seek_of.w at hm
  have H := AM.Own.nil h0
  simp (maxSteps := 4000000) -implicitDefEqProofs (disch := omega) only [push_cast, Nat.reduceAdd, Nat.reduceLeDiff, Nat.reduceMul, Nat.reduceSub, Nat.reduceLT, Nat.reduceEqDiff, Int.reduceAdd, Int.reduceSub, Int.reduceLE, Int.reduceLT, Int.reduceEq, Int.reduceNe, Int.reduceToNat, Int.reduceNeg, reduceIte, reduceCtorEq, ac_seek_of]
  refine calls_w (fun h => chars_Low.ok hm h) (fun r1 hm => ?_)
  simp (maxSteps := 4000000) -implicitDefEqProofs (disch := omega) only [push_cast, Nat.reduceAdd, Nat.reduceLeDiff, Nat.reduceMul, Nat.reduceSub, Nat.reduceLT, Nat.reduceEqDiff, Int.reduceAdd, Int.reduceSub, Int.reduceLE, Int.reduceLT, Int.reduceEq, Int.reduceNe, Int.reduceToNat, Int.reduceNeg, reduceIte, reduceCtorEq]
  exact retQ_back (.inl rfl) r1 _ rfl (Shift.refl _ _) H.sub hm
/-! stylus/seek.At -/
abbrev n_seek_At : Nat := 10
noncomputable def code_seek_At : Code := match Try.f10.body with | some c => c | none => .skip
def ann_seek_At : Nat → Ann
  | 5 => { pure := [1, 3], plan := (.op 0 (.op 1 (.op 2 (.op 3 (.op 4 .done))))), ghost := false, post := false }
  | _ => {}
noncomputable def ac_seek_At : AC :=
  (.seq (.reg [⟨some 3, (Op.box 9 (Operand.tmp 1)), none, false⟩, ⟨some 4, (Op.assign (Operand.const (Value.slice none 0 0))), none, false⟩]) (.seq (.reg [⟨some 5, (Op.alloc 32), none, false⟩]) (.seq (.seq (.reg [⟨some 8, (Op.move (Operand.tmp 0)), none, false⟩, ⟨some 9, (Op.call (Call.mk (Callee.value (Operand.func 8)) #[(Operand.tmp 8)] #[22])), none, false⟩]) (.block 0 (.range (Operand.tmp 9) [10, 11] (.seq (.reg [⟨some 6, (Op.assign (Operand.tmp 10)), none, false⟩]) (.reg [⟨some 7, (Op.assign (Operand.tmp 11)), none, false⟩])) (.block 1 (.seq (.draw [⟨some 12, (Op.move (Operand.tmp 7)), none, false⟩, ⟨some 13, (Op.call (Call.mk (Callee.value (Operand.func 23)) #[(Operand.tmp 12)] #[9])), none, true⟩, ⟨some 14, (Op.load 9 (Operand.tmp 3)), none, false⟩, ⟨some 15, (Op.call (Call.mk (Callee.value (Operand.func 23)) #[(Operand.tmp 14)] #[9])), none, true⟩, ⟨some 16, (Op.binOp BinOp.eql 50 (Operand.tmp 13) (Operand.tmp 15) 50), none, false⟩] (.op 0 (.op 1 (.op 2 (.op 3 (.op 4 .done)))))) (.cond (Operand.tmp 16) (.reg [⟨some 17, (Op.load 32 (Operand.tmp 5)), none, false⟩, ⟨some 18, (Op.move (Operand.tmp 6)), none, false⟩, ⟨some 19, (Op.buildSlice 32 1 #[(0, (Operand.tmp 18))]), none, false⟩, ⟨some 20, (Op.call (Call.mk (Callee.builtin Builtin.append) #[(Operand.tmp 17), (Operand.tmp 19)] #[32, 32])), none, false⟩, ⟨none, (Op.store 32 (Operand.tmp 5) (Operand.tmp 20)), none, false⟩]) .skip)))))) (.seq (.reg [⟨some 21, (Op.load 32 (Operand.tmp 5)), none, false⟩, ⟨some 4, (Op.assign (Operand.tmp 21)), none, false⟩]) .ret))))
theorem body_seek_At : Try.f10.body = some code_seek_At := by kernel_rfl
theorem slim_seek_At : slim ann_seek_At code_seek_At = some ac_seek_At := by kernel_rfl
theorem name_seek_At : (Try.f10.name == "runtime.NumGoroutine") = false := by kernel_rfl
theorem enter_seek_At {args : List AV} {h : Hp} {Q : AE → Hp → Prop} (H : awp Try.prog tab ac_seek_At (retQ tab [(ResultVar.tmp 4)] Q) ⟨args ++ List.replicate (22 - args.length) .any, h⟩) : ACalls Try.prog 10 args h Q :=
  acalls_of tab_ok mixed Try.func10 body_seek_At name_seek_At slim_seek_At rfl Try.ntmps10 H
/-- stylus/seek.At -/
def seek_At.w (a0_ : List ApiTok) (a1_ : ByteArray) (Q : (List Int) → Prop) : Prop :=
  seek_Words.w a0_ (fun r1 =>
    seek_Words_1_i0.w (σ := (List Int) × Nat) (fun ⟨v1, v2⟩ ⟨a1, n1⟩ k1 => n1 = 0 ∧
      ∃ r2 : ByteArray, seek_of.w v2 (fun r' => r' = r2) ∧
      ∃ r3 : ByteArray, seek_of.w a1_ (fun r' => r' = r3) ∧
      if r2 = r3 then
        ((a1.length + ([v1] : List Int).length) * 8 ≤ 140737488355328) ∧
        k1 true (a1 ++ ([v1] : List Int), 0)
      else
        k1 true (a1, 0)) r1 (([] : List Int), 0) (fun ⟨a1, n2⟩ =>
      Q a1))
theorem seek_At.ok {a0_ : List ApiTok} {a1_ : ByteArray} {Q : (List Int) → Prop} (hm : seek_At.w a0_ a1_ Q) (h0 : Hp) : ACalls Try.prog n_seek_At [(.isl 3 (a0_.map ApiTok.enc)), (astr a1_)] h0 (Back h0 (fun r => (.isl 1 (r.map encInt))) Q) := by
  refine enter_seek_At ?_
  unfold seek_At.w at hm
  have H := AM.Own.nil h0
  simp (maxSteps := 4000000) -implicitDefEqProofs (disch := omega) only [push_cast, Nat.reduceAdd, Nat.reduceLeDiff, Nat.reduceMul, Nat.reduceSub, Nat.reduceLT, Nat.reduceEqDiff, Int.reduceAdd, Int.reduceSub, Int.reduceLE, Int.reduceLT, Int.reduceEq, Int.reduceNe, Int.reduceToNat, Int.reduceNeg, reduceIte, reduceCtorEq, ac_seek_At]
  refine H.newR [(astr a1_)] rfl (fun b1 h1 H => ?_)
  have e0 := H.getP 0 rfl
  simp (maxSteps := 4000000) -implicitDefEqProofs (disch := omega) only [push_cast, Nat.reduceAdd, Nat.reduceLeDiff, Nat.reduceMul, Nat.reduceSub, Nat.reduceLT, Nat.reduceEqDiff, Int.reduceAdd, Int.reduceSub, Int.reduceLE, Int.reduceLT, Int.reduceEq, Int.reduceNe, Int.reduceToNat, Int.reduceNeg, reduceIte, reduceCtorEq, e0]
  refine H.newR [anil] rfl (fun b2 h2 H => ?_)
  have e0 := H.getP 0 rfl
  have e1 := H.getP 1 rfl
  simp (maxSteps := 4000000) -implicitDefEqProofs (disch := omega) only [push_cast, Nat.reduceAdd, Nat.reduceLeDiff, Nat.reduceMul, Nat.reduceSub, Nat.reduceLT, Nat.reduceEqDiff, Int.reduceAdd, Int.reduceSub, Int.reduceLE, Int.reduceLT, Int.reduceEq, Int.reduceNe, Int.reduceToNat, Int.reduceNeg, reduceIte, reduceCtorEq, e0, e1]
  refine calls_w (fun h => seek_Words.ok hm h) (fun r1 hm => ?_)
  have e0 := H.getP 0 rfl
  have e1 := H.getP 1 rfl
  simp (maxSteps := 4000000) -implicitDefEqProofs (disch := omega) only [push_cast, Nat.reduceAdd, Nat.reduceLeDiff, Nat.reduceMul, Nat.reduceSub, Nat.reduceLT, Nat.reduceEqDiff, Int.reduceAdd, Int.reduceSub, Int.reduceLE, Int.reduceLT, Int.reduceEq, Int.reduceNe, Int.reduceToNat, Int.reduceNeg, reduceIte, reduceCtorEq, e0, e1]
  replace H := H.addNil 1 (some (3, 0))
  replace H := H.perm [0, 1, 2] (by decide)
  refine awp_range (σ := (List Int)) (α := Int × ByteArray) (enc := (fun x => [(aint x.1), (astr x.2)])) (n := 21) rfl [] (fun (s : (List Int)) its rs => match s with | a1 => ∃ (x1 : AV), its = [⟨(.optr b1 1 0 0), true, 1, [[(astr a1_)]], some (9, 1)⟩, ⟨(.optr b2 1 0 0), true, 1, [[x1]], some (32, 1)⟩, ⟨x1, false, 1, a1.map encInt, some (3, 0)⟩] ∧ rs = []) (fun hY hR hS => seek_Words_1_i0.ok hm hY hR hS) _ [] ⟨anil, rfl, rfl⟩ H.r (fun _ => rfl) (by rintro ⟨v1, v2⟩ a1 k K hk hy; exact hk hy.1) ?_ ?_
  · rintro ⟨v1, v2⟩ a1 _ _ k1 hb1 h3 hy hI HO
    dsimp only at hy hI
    obtain ⟨_, hm⟩ := hy
    obtain ⟨x1, rfl, rfl⟩ := hI
    replace H := HO.own
    have e0 := H.getP 0 rfl
    have e1 := H.getP 1 rfl
    simp (maxSteps := 4000000) -implicitDefEqProofs (disch := omega) only [push_cast, Nat.reduceAdd, Nat.reduceLeDiff, Nat.reduceMul, Nat.reduceSub, Nat.reduceLT, Nat.reduceEqDiff, Int.reduceAdd, Int.reduceSub, Int.reduceLE, Int.reduceLT, Int.reduceEq, Int.reduceNe, Int.reduceToNat, Int.reduceNeg, reduceIte, reduceCtorEq, setAll, List.zip_cons_cons, List.zip_nil_left, List.foldl_cons, List.foldl_nil, e0, e1]
    refine ⟨_, H.r, fun hb2 h4 HO => ?_⟩
    replace H := HO.own
    have e0 := H.getP 0 rfl
    have e1 := H.getP 1 rfl
    try simp (maxSteps := 4000000) -implicitDefEqProofs (disch := omega) only [push_cast, Nat.reduceAdd, Nat.reduceLeDiff, Nat.reduceMul, Nat.reduceSub, Nat.reduceLT, Nat.reduceEqDiff, Int.reduceAdd, Int.reduceSub, Int.reduceLE, Int.reduceLT, Int.reduceEq, Int.reduceNe, Int.reduceToNat, Int.reduceNeg, reduceIte, reduceCtorEq, setAll, List.zip_cons_cons, List.zip_nil_left, List.foldl_cons, List.foldl_nil, e0, e1]
    obtain ⟨r2, g1, hm⟩ := hm
    refine pures_of _ (pure_of_back (fun h => seek_of.ok g1 h)) ?_
    have e0 := H.getP 0 rfl
    have e1 := H.getP 1 rfl
    simp (maxSteps := 4000000) -implicitDefEqProofs (disch := omega) only [push_cast, Nat.reduceAdd, Nat.reduceLeDiff, Nat.reduceMul, Nat.reduceSub, Nat.reduceLT, Nat.reduceEqDiff, Int.reduceAdd, Int.reduceSub, Int.reduceLE, Int.reduceLT, Int.reduceEq, Int.reduceNe, Int.reduceToNat, Int.reduceNeg, reduceIte, reduceCtorEq, setAll, List.zip_cons_cons, List.zip_nil_left, List.foldl_cons, List.foldl_nil, e0, e1]
    obtain ⟨r3, g2, hm⟩ := hm
    refine pures_of _ (pure_of_back (fun h => seek_of.ok g2 h)) ?_
    have e0 := H.getP 0 rfl
    have e1 := H.getP 1 rfl
    simp (maxSteps := 4000000) -implicitDefEqProofs (disch := omega) only [push_cast, Nat.reduceAdd, Nat.reduceLeDiff, Nat.reduceMul, Nat.reduceSub, Nat.reduceLT, Nat.reduceEqDiff, Int.reduceAdd, Int.reduceSub, Int.reduceLE, Int.reduceLT, Int.reduceEq, Int.reduceNe, Int.reduceToNat, Int.reduceNeg, reduceIte, reduceCtorEq, setAll, List.zip_cons_cons, List.zip_nil_left, List.foldl_cons, List.foldl_nil, e0, e1]
    rw [fork_cond]
    refine ⟨fun c1 => ?_, fun c1 => ?_⟩
    · replace hm := ifp hm c1
      have e0 := H.getP 0 rfl
      have e1 := H.getP 1 rfl
      simp (maxSteps := 4000000) -implicitDefEqProofs (disch := omega) only [push_cast, Nat.reduceAdd, Nat.reduceLeDiff, Nat.reduceMul, Nat.reduceSub, Nat.reduceLT, Nat.reduceEqDiff, Int.reduceAdd, Int.reduceSub, Int.reduceLE, Int.reduceLT, Int.reduceEq, Int.reduceNe, Int.reduceToNat, Int.reduceNeg, reduceIte, reduceCtorEq, setAll, List.zip_cons_cons, List.zip_nil_left, List.foldl_cons, List.foldl_nil, eq_true c1, e0, e1]
      refine H.newL (E := encInt) ([v1] : List Int) rfl rfl (fun b3 h5 H => ?_)
      have e0 := H.getP 0 rfl
      have e1 := H.getP 1 rfl
      simp (maxSteps := 4000000) -implicitDefEqProofs (disch := omega) only [push_cast, Nat.reduceAdd, Nat.reduceLeDiff, Nat.reduceMul, Nat.reduceSub, Nat.reduceLT, Nat.reduceEqDiff, Int.reduceAdd, Int.reduceSub, Int.reduceLE, Int.reduceLT, Int.reduceEq, Int.reduceNe, Int.reduceToNat, Int.reduceNeg, reduceIte, reduceCtorEq, setAll, List.zip_cons_cons, List.zip_nil_left, List.foldl_cons, List.foldl_nil, eq_true c1, H.src (e := 3) 3 rfl, e0, e1]
      obtain ⟨w1, hm⟩ := hm
      refine H.appL (E := encInt) 2 ([v1] : List Int) rfl rfl rfl (by decide) (by decide) w1 (fun x2 h6 H => ?_)
      have e0 := H.getP 0 rfl
      have e1 := H.getP 1 rfl
      simp (maxSteps := 4000000) -implicitDefEqProofs (disch := omega) only [push_cast, Nat.reduceAdd, Nat.reduceLeDiff, Nat.reduceMul, Nat.reduceSub, Nat.reduceLT, Nat.reduceEqDiff, Int.reduceAdd, Int.reduceSub, Int.reduceLE, Int.reduceLT, Int.reduceEq, Int.reduceNe, Int.reduceToNat, Int.reduceNeg, reduceIte, reduceCtorEq, setAll, List.zip_cons_cons, List.zip_nil_left, List.foldl_cons, List.foldl_nil, eq_true c1, e0, e1]
      refine H.stP 1 [x2] rfl (H.ok 2 rfl).1 (H.ok 2 rfl).2 rfl (Nat.le_of_ble_eq_true rfl) rfl (fun h7 H => ?_)
      have e0 := H.getP 0 rfl
      have e1 := H.getP 1 rfl
      simp (maxSteps := 4000000) -implicitDefEqProofs (disch := omega) only [push_cast, Nat.reduceAdd, Nat.reduceLeDiff, Nat.reduceMul, Nat.reduceSub, Nat.reduceLT, Nat.reduceEqDiff, Int.reduceAdd, Int.reduceSub, Int.reduceLE, Int.reduceLT, Int.reduceEq, Int.reduceNe, Int.reduceToNat, Int.reduceNeg, reduceIte, reduceCtorEq, setAll, List.zip_cons_cons, List.zip_nil_left, List.foldl_cons, List.foldl_nil, eq_true c1, e0, e1]
      replace H := H.perm [0, 1, 2] (by decide)
      exact rngQ_of 0 (a1 ++ ([v1] : List Int)) ⟨x2, rfl, rfl⟩ H.r hm trivial
    · replace hm := ifn hm c1
      have e0 := H.getP 0 rfl
      have e1 := H.getP 1 rfl
      simp (maxSteps := 4000000) -implicitDefEqProofs (disch := omega) only [push_cast, Nat.reduceAdd, Nat.reduceLeDiff, Nat.reduceMul, Nat.reduceSub, Nat.reduceLT, Nat.reduceEqDiff, Int.reduceAdd, Int.reduceSub, Int.reduceLE, Int.reduceLT, Int.reduceEq, Int.reduceNe, Int.reduceToNat, Int.reduceNeg, reduceIte, reduceCtorEq, setAll, List.zip_cons_cons, List.zip_nil_left, List.foldl_cons, List.foldl_nil, eq_false c1, e0, e1]
      replace H := H.perm [0, 1, 2] (by decide)
      exact rngQ_of 0 a1 ⟨x1, rfl, rfl⟩ H.r hm trivial
  · rintro a1 n2 _ _ h8 hm hI HO
    dsimp only at hm hI
    obtain ⟨x1, rfl, rfl⟩ := hI
    replace H := HO.own
    rw [penOf_nil]
    have e0 := H.getP 0 rfl
    have e1 := H.getP 1 rfl
    simp (maxSteps := 4000000) -implicitDefEqProofs (disch := omega) only [push_cast, Nat.reduceAdd, Nat.reduceLeDiff, Nat.reduceMul, Nat.reduceSub, Nat.reduceLT, Nat.reduceEqDiff, Int.reduceAdd, Int.reduceSub, Int.reduceLE, Int.reduceLT, Int.reduceEq, Int.reduceNe, Int.reduceToNat, Int.reduceNeg, reduceIte, reduceCtorEq, penOf, apend, e0, e1]
    obtain ⟨h9, s1, H⟩ := H.freeze 2 rfl
    exact retQ_back (.inl rfl) a1 _ rfl s1 H.sub hm
/-! stylus/seek.Index -/
abbrev n_seek_Index : Nat := 13
noncomputable def code_seek_Index : Code := match Try.f13.body with | some c => c | none => .skip
def ann_seek_Index : Nat → Ann
  | 4 => { pure := [2], plan := (.op 0 (.op 1 (.op 2 (.op 3 (.op 4 (.op 5 .done)))))), ghost := false, post := false }
  | _ => {}
noncomputable def ac_seek_Index_c1 : AC :=
  (.seq (.seq (.reg [⟨some 18, (Op.load 52 (Operand.tmp 3)), none, false⟩, ⟨some 19, (Op.range 52 (Operand.tmp 18)), none, false⟩]) (.block 2 (.loop (.seq (.reg [⟨some 20, (Op.next (Operand.tmp 19) false), none, false⟩, ⟨some 21, (Op.extract (Operand.tmp 20) 0), none, false⟩]) (.seq (.cond (Operand.tmp 21) .skip (.exit 2)) (.block 3 (.seq (.reg [⟨some 22, (Op.entry (Operand.tmp 19)), none, false⟩, ⟨some 23, (Op.extract (Operand.tmp 22) 0), none, false⟩, ⟨some 7, (Op.assign (Operand.tmp 23)), none, false⟩]) (.reg [⟨some 24, (Op.move (Operand.tmp 6)), none, false⟩, ⟨some 25, (Op.move (Operand.tmp 7)), none, false⟩, ⟨some 26, (Op.buildSlice 35 1 #[(0, (Operand.tmp 25))]), none, false⟩, ⟨some 27, (Op.call (Call.mk (Callee.builtin Builtin.append) #[(Operand.tmp 24), (Operand.tmp 26)] #[35, 35])), none, false⟩, ⟨some 6, (Op.assign (Operand.tmp 27)), none, false⟩])))))))) (.seq (.reg [⟨some 28, (Op.move (Operand.tmp 6)), none, false⟩, ⟨some 29, (Op.call (Call.mk (Callee.value (Operand.func 25)) #[(Operand.tmp 28)] #[35])), none, false⟩]) (.seq (.reg [⟨some 30, (Op.move (Operand.tmp 6)), none, false⟩, ⟨some 2, (Op.assign (Operand.tmp 30)), none, false⟩]) .ret)))
noncomputable def ac_seek_Index : AC :=
  (.seq (.reg [⟨some 2, (Op.assign (Operand.const (Value.slice none 0 0))), none, false⟩]) (.seq (.reg [⟨some 8, (Op.makeMap 52 none), none, false⟩, ⟨some 3, (Op.alloc 52), none, false⟩, ⟨none, (Op.store 52 (Operand.tmp 3) (Operand.tmp 8)), none, false⟩]) (.seq (.seq (.reg [⟨some 9, (Op.move (Operand.tmp 0)), none, false⟩, ⟨some 10, (Op.call (Call.mk (Callee.value (Operand.func 8)) #[(Operand.tmp 9)] #[22])), none, false⟩]) (.block 0 (.range (Operand.tmp 10) [11, 12] (.reg [⟨some 5, (Op.assign (Operand.tmp 12)), none, false⟩]) (.block 1 (.draw [⟨some 13, (Op.load 52 (Operand.tmp 3)), none, false⟩, ⟨some 14, (Op.move (Operand.tmp 5)), none, false⟩, ⟨some 15, (Op.call (Call.mk (Callee.value (Operand.func 23)) #[(Operand.tmp 14)] #[9])), none, true⟩, ⟨some 16, (Op.lookup 52 (Operand.tmp 13) (Operand.tmp 15) false), none, false⟩, ⟨some 17, (Op.binOp BinOp.add 3 (Operand.tmp 16) (Operand.const (Value.int IntKind.i64 1)) 3), none, false⟩, ⟨none, (Op.mapUpdate 52 (Operand.tmp 13) (Operand.tmp 15) (Operand.tmp 17)), none, false⟩] (.op 0 (.op 1 (.op 2 (.op 3 (.op 4 (.op 5 .done))))))))))) (.seq (.reg [⟨some 6, (Op.assign (Operand.const (Value.slice none 0 0))), none, false⟩]) ac_seek_Index_c1))))
theorem body_seek_Index : Try.f13.body = some code_seek_Index := by kernel_rfl
theorem slim_seek_Index : slim ann_seek_Index code_seek_Index = some ac_seek_Index := by kernel_rfl
theorem name_seek_Index : (Try.f13.name == "runtime.NumGoroutine") = false := by kernel_rfl
theorem enter_seek_Index {args : List AV} {h : Hp} {Q : AE → Hp → Prop} (H : awp Try.prog tab ac_seek_Index (retQ tab [(ResultVar.tmp 2)] Q) ⟨args ++ List.replicate (31 - args.length) .any, h⟩) : ACalls Try.prog 13 args h Q :=
  acalls_of tab_ok mixed Try.func13 body_seek_Index name_seek_Index slim_seek_Index rfl Try.ntmps13 H
/-- stylus/seek.Index -/
def seek_Index.w (a0_ : List ApiTok) (Q : (List ByteArray) → Prop) : Prop :=
  seek_Words.w a0_ (fun r1 =>
    seek_Words_1_i0.w (σ := (List (ByteArray × Int)) × Nat) (fun ⟨v1, v2⟩ ⟨a1, n1⟩ k1 => n1 = 0 ∧
      ∃ r2 : ByteArray, seek_of.w v2 (fun r' => r' = r2) ∧
      (I64 (((aget a1 r2).getD 0) + 1)) ∧
      k1 true (aset a1 r2 (((aget a1 r2).getD 0) + 1), 0)) r1 (([] : List (ByteArray × Int)), 0) (fun ⟨a1, n2⟩ =>
      wcut (α := (List ByteArray)) (fun k2 =>
        wloop (σ := (List ByteArray) × (Array Nat)) (fun ⟨a3, a4⟩ next1 =>
          (leftIx a1.length a4 = [] →
            k2 a3) ∧ (∀ i1 ∈ leftIx a1.length a4, ∀ v3, a1[i1]? = some v3 →
            ((a3.length + ([v3.1] : List ByteArray).length) * 16 ≤ 140737488355328) ∧
            next1 (a3 ++ ([v3.1] : List ByteArray), a4.push i1))) (([] : List ByteArray), (#[] : Array Nat))) (fun a2 =>
        (a2.length < 4611686018427387904) ∧
        Q (sortB a2))))
theorem seek_Index.ok {a0_ : List ApiTok} {Q : (List ByteArray) → Prop} (hm : seek_Index.w a0_ Q) (h0 : Hp) : ACalls Try.prog n_seek_Index [(.isl 3 (a0_.map ApiTok.enc))] h0 (Back h0 (fun r => (.isl 1 (r.map AM.encStr))) Q) := by
  refine enter_seek_Index ?_
  unfold seek_Index.w at hm
  have H := AM.Own.nil h0
  simp (maxSteps := 4000000) -implicitDefEqProofs (disch := omega) only [push_cast, Nat.reduceAdd, Nat.reduceLeDiff, Nat.reduceMul, Nat.reduceSub, Nat.reduceLT, Nat.reduceEqDiff, Int.reduceAdd, Int.reduceSub, Int.reduceLE, Int.reduceLT, Int.reduceEq, Int.reduceNe, Int.reduceToNat, Int.reduceNeg, reduceIte, reduceCtorEq, ac_seek_Index]
  refine mk_of0 H (fun b1 h1 hD H => ?_)
  replace hD : RawOK h0 [(b1, mapObj (([] : List (ByteArray × Int)).map fun p => (Value.string p.1, Value.int .i64 p.2)))] := hD
  replace H : AM.Own (h0.addR [(b1, mapObj (([] : List (ByteArray × Int)).map fun p => (Value.string p.1, Value.int .i64 p.2)))]) h1 [] := H
  simp (maxSteps := 4000000) -implicitDefEqProofs (disch := omega) only [push_cast, Nat.reduceAdd, Nat.reduceLeDiff, Nat.reduceMul, Nat.reduceSub, Nat.reduceLT, Nat.reduceEqDiff, Int.reduceAdd, Int.reduceSub, Int.reduceLE, Int.reduceLT, Int.reduceEq, Int.reduceNe, Int.reduceToNat, Int.reduceNeg, reduceIte, reduceCtorEq]
  refine H.newR [(.val (.map none))] rfl (fun b2 h2 H => ?_)
  have e0 := H.getP 0 rfl
  simp (maxSteps := 4000000) -implicitDefEqProofs (disch := omega) only [push_cast, Nat.reduceAdd, Nat.reduceLeDiff, Nat.reduceMul, Nat.reduceSub, Nat.reduceLT, Nat.reduceEqDiff, Int.reduceAdd, Int.reduceSub, Int.reduceLE, Int.reduceLT, Int.reduceEq, Int.reduceNe, Int.reduceToNat, Int.reduceNeg, reduceIte, reduceCtorEq, e0]
  refine H.stP 0 [(.val (.map (some b1)))] rfl rfl rfl rfl (Nat.le_of_ble_eq_true rfl) rfl (fun h3 H => ?_)
  have e0 := H.getP 0 rfl
  simp (maxSteps := 4000000) -implicitDefEqProofs (disch := omega) only [push_cast, Nat.reduceAdd, Nat.reduceLeDiff, Nat.reduceMul, Nat.reduceSub, Nat.reduceLT, Nat.reduceEqDiff, Int.reduceAdd, Int.reduceSub, Int.reduceLE, Int.reduceLT, Int.reduceEq, Int.reduceNe, Int.reduceToNat, Int.reduceNeg, reduceIte, reduceCtorEq, e0]
  refine calls_w (fun h => seek_Words.ok hm h) (fun r1 hm => ?_)
  have e0 := H.getP 0 rfl
  simp (maxSteps := 4000000) -implicitDefEqProofs (disch := omega) only [push_cast, Nat.reduceAdd, Nat.reduceLeDiff, Nat.reduceMul, Nat.reduceSub, Nat.reduceLT, Nat.reduceEqDiff, Int.reduceAdd, Int.reduceSub, Int.reduceLE, Int.reduceLT, Int.reduceEq, Int.reduceNe, Int.reduceToNat, Int.reduceNeg, reduceIte, reduceCtorEq, e0]
  replace H := H.perm [0] (by decide)
  refine awp_range (σ := (List (ByteArray × Int))) (α := Int × ByteArray) (enc := (fun x => [(aint x.1), (astr x.2)])) (n := 21) rfl [] (fun (s : (List (ByteArray × Int))) its rs => match s with | a1 => its = [⟨(.optr b2 1 0 0), true, 1, [[(.val (.map (some b1)))]], some (52, 1)⟩] ∧ rs = [(b1, mapObj (a1.map fun p => (Value.string p.1, Value.int .i64 p.2)))]) (fun hY hR hS => seek_Words_1_i0.ok hm hY hR hS) _ [(b1, mapObj (([] : List (ByteArray × Int)).map fun p => (Value.string p.1, Value.int .i64 p.2)))] ⟨rfl, rfl⟩ ⟨hD, H⟩ (fun _ => rfl) (by rintro ⟨v1, v2⟩ a1 k K hk hy; exact hk hy.1) ?_ ?_
  · rintro ⟨v1, v2⟩ a1 _ _ k1 hb1 h4 hy hI HO
    dsimp only at hy hI
    obtain ⟨_, hm⟩ := hy
    obtain ⟨rfl, rfl⟩ := hI
    obtain ⟨hD, H⟩ := HO
    have e0 := H.getP 0 rfl
    simp (maxSteps := 4000000) -implicitDefEqProofs (disch := omega) only [push_cast, Nat.reduceAdd, Nat.reduceLeDiff, Nat.reduceMul, Nat.reduceSub, Nat.reduceLT, Nat.reduceEqDiff, Int.reduceAdd, Int.reduceSub, Int.reduceLE, Int.reduceLT, Int.reduceEq, Int.reduceNe, Int.reduceToNat, Int.reduceNeg, reduceIte, reduceCtorEq, setAll, List.zip_cons_cons, List.zip_nil_left, List.foldl_cons, List.foldl_nil, e0]
    refine ⟨_, ⟨hD, H⟩, fun hb2 h5 HO => ?_⟩
    obtain ⟨hD, H⟩ := HO
    have e0 := H.getP 0 rfl
    try simp (maxSteps := 4000000) -implicitDefEqProofs (disch := omega) only [push_cast, Nat.reduceAdd, Nat.reduceLeDiff, Nat.reduceMul, Nat.reduceSub, Nat.reduceLT, Nat.reduceEqDiff, Int.reduceAdd, Int.reduceSub, Int.reduceLE, Int.reduceLT, Int.reduceEq, Int.reduceNe, Int.reduceToNat, Int.reduceNeg, reduceIte, reduceCtorEq, setAll, List.zip_cons_cons, List.zip_nil_left, List.foldl_cons, List.foldl_nil, e0]
    obtain ⟨r2, g1, hm⟩ := hm
    refine pures_of _ (pure_of_back (fun h => seek_of.ok g1 h)) ?_
    have e0 := H.getP 0 rfl
    simp (maxSteps := 4000000) -implicitDefEqProofs (disch := omega) only [push_cast, Nat.reduceAdd, Nat.reduceLeDiff, Nat.reduceMul, Nat.reduceSub, Nat.reduceLT, Nat.reduceEqDiff, Int.reduceAdd, Int.reduceSub, Int.reduceLE, Int.reduceLT, Int.reduceEq, Int.reduceNe, Int.reduceToNat, Int.reduceNeg, reduceIte, reduceCtorEq, setAll, List.zip_cons_cons, List.zip_nil_left, List.foldl_cons, List.foldl_nil, e0]
    refine look_of (kv := fun x => Value.string x) (vv := fun x => Value.int .i64 x) keyStr (fun v => (aint v)) (fun _ => rfl) 0 rfl tab_52 tab_50 tab_3 H hD 0 a1 r2 rfl rfl ?_
    obtain ⟨w1, hm⟩ := hm
    have e0 := H.getP 0 rfl
    simp (maxSteps := 4000000) -implicitDefEqProofs (disch := omega) only [push_cast, Nat.reduceAdd, Nat.reduceLeDiff, Nat.reduceMul, Nat.reduceSub, Nat.reduceLT, Nat.reduceEqDiff, Int.reduceAdd, Int.reduceSub, Int.reduceLE, Int.reduceLT, Int.reduceEq, Int.reduceNe, Int.reduceToNat, Int.reduceNeg, reduceIte, reduceCtorEq, setAll, List.zip_cons_cons, List.zip_nil_left, List.foldl_cons, List.foldl_nil, wrap_i64 _ w1, e0]
    refine upd_of' (kv := fun x => Value.string x) (vv := fun x => Value.int .i64 x) keyStr tab_52 tab_50 H hD 0 a1 r2 (((aget a1 r2).getD 0) + 1) rfl rfl rfl (fun h6 hD H => ?_)
    replace hD : RawOK hb2 [(b1, mapObj ((aset a1 r2 (((aget a1 r2).getD 0) + 1)).map fun p => (Value.string p.1, Value.int .i64 p.2)))] := hD
    replace H : AM.Own (hb2.addR [(b1, mapObj ((aset a1 r2 (((aget a1 r2).getD 0) + 1)).map fun p => (Value.string p.1, Value.int .i64 p.2)))]) h6 [⟨(.optr b2 1 0 0), true, 1, [[(.val (.map (some b1)))]], some (52, 1)⟩] := H
    have e0 := H.getP 0 rfl
    simp (maxSteps := 4000000) -implicitDefEqProofs (disch := omega) only [push_cast, Nat.reduceAdd, Nat.reduceLeDiff, Nat.reduceMul, Nat.reduceSub, Nat.reduceLT, Nat.reduceEqDiff, Int.reduceAdd, Int.reduceSub, Int.reduceLE, Int.reduceLT, Int.reduceEq, Int.reduceNe, Int.reduceToNat, Int.reduceNeg, reduceIte, reduceCtorEq, setAll, List.zip_cons_cons, List.zip_nil_left, List.foldl_cons, List.foldl_nil, wrap_i64 _ w1, e0]
    replace H := H.perm [0] (by decide)
    exact rngQ_of 0 (aset a1 r2 (((aget a1 r2).getD 0) + 1)) ⟨rfl, rfl⟩ ⟨hD, H⟩ hm trivial
  · rintro a1 n2 _ _ h7 hm hI HO
    dsimp only at hm hI
    obtain ⟨rfl, rfl⟩ := hI
    obtain ⟨hD, H⟩ := HO
    rw [penOf_nil]
    have e0 := H.getP 0 rfl
    simp (maxSteps := 4000000) -implicitDefEqProofs (disch := omega) only [push_cast, Nat.reduceAdd, Nat.reduceLeDiff, Nat.reduceMul, Nat.reduceSub, Nat.reduceLT, Nat.reduceEqDiff, Int.reduceAdd, Int.reduceSub, Int.reduceLE, Int.reduceLT, Int.reduceEq, Int.reduceNe, Int.reduceToNat, Int.reduceNeg, reduceIte, reduceCtorEq, penOf, apend, e0]
    obtain ⟨k2, hm, hk1⟩ := wcut_elim hm
    refine awp_cut (fun s' => ∃ (a2 : List ByteArray) (x1 : AV) (h8 : Hp), Like s'.tm ((List.replicate 31 none).set 6 (some x1)) ∧ s'.h = h8 ∧ RawOK h0 [(b1, mapObj (a1.map fun p => (Value.string p.1, Value.int .i64 p.2)))] ∧ AM.Own (h0.addR [(b1, mapObj (a1.map fun p => (Value.string p.1, Value.int .i64 p.2)))]) h8 [⟨x1, false, 1, a2.map AM.encStr, some (9, 0)⟩] ∧ k2 a2) ?_ ?_
    · have e0 := H.getP 0 rfl
      simp (maxSteps := 4000000) -implicitDefEqProofs (disch := omega) only [push_cast, Nat.reduceAdd, Nat.reduceLeDiff, Nat.reduceMul, Nat.reduceSub, Nat.reduceLT, Nat.reduceEqDiff, Int.reduceAdd, Int.reduceSub, Int.reduceLE, Int.reduceLT, Int.reduceEq, Int.reduceNe, Int.reduceToNat, Int.reduceNeg, reduceIte, reduceCtorEq, penOf, apend, e0]
      refine range_of (kv := fun x => Value.string x) (vv := fun x => Value.int .i64 x) tab_52 H hD 0 a1 rfl (fun b3 h9 hD H => ?_)
      replace hD : RawOK h0 [(b1, mapObj (a1.map fun p => (Value.string p.1, Value.int .i64 p.2))), (b3, iterObj b1 a1.length (#[] : Array Nat))] := hD
      replace H : AM.Own (h0.addR [(b1, mapObj (a1.map fun p => (Value.string p.1, Value.int .i64 p.2))), (b3, iterObj b1 a1.length (#[] : Array Nat))]) h9 [⟨(.optr b2 1 0 0), true, 1, [[(.val (.map (some b1)))]], some (52, 1)⟩] := H
      have e0 := H.getP 0 rfl
      simp (maxSteps := 4000000) -implicitDefEqProofs (disch := omega) only [push_cast, Nat.reduceAdd, Nat.reduceLeDiff, Nat.reduceMul, Nat.reduceSub, Nat.reduceLT, Nat.reduceEqDiff, Int.reduceAdd, Int.reduceSub, Int.reduceLE, Int.reduceLT, Int.reduceEq, Int.reduceNe, Int.reduceToNat, Int.reduceNeg, reduceIte, reduceCtorEq, penOf, apend, e0]
      obtain ⟨inv1, mu1, hi1, hs1⟩ := hm
      replace H := H.addNil 1 (some (9, 0))
      replace H := H.perm [1] (by decide)
      refine awp_loop (σ := ((List ByteArray) × (Array Nat)) × AV × Hp) (fun ⟨⟨a3, a4⟩, x2, h10⟩ => ⟨((List.replicate 31 AV.any).set 6 x2).set 19 (.val (.pointer (some ⟨b3, 0, none⟩))), h10⟩) (fun ⟨⟨a3, a4⟩, x2, h10⟩ => inv1 (a3, a4) ∧ RawOK h0 [(b1, mapObj (a1.map fun p => (Value.string p.1, Value.int .i64 p.2))), (b3, iterObj b1 a1.length a4)] ∧ AM.Own (h0.addR [(b1, mapObj (a1.map fun p => (Value.string p.1, Value.int .i64 p.2))), (b3, iterObj b1 a1.length a4)]) h10 [⟨x2, false, 1, a3.map AM.encStr, some (9, 0)⟩]) (fun ⟨⟨a3, a4⟩, x2, h10⟩ => mu1 (a3, a4)) ⟨(([] : List ByteArray), (#[] : Array Nat)), anil, h9⟩ (Retell.weak (by simp [Weak, push_cast]) (Hp.sub.refl _)) ⟨hi1, hD, H⟩ ?_
      rintro ⟨⟨a3, a4⟩, x2, h10⟩ ⟨hi1, hD, H⟩
      have hm := hs1 _ hi1
      dsimp only at hm H ⊢
      simp (maxSteps := 4000000) -implicitDefEqProofs (disch := omega) only [push_cast, Nat.reduceAdd, Nat.reduceLeDiff, Nat.reduceMul, Nat.reduceSub, Nat.reduceLT, Nat.reduceEqDiff, Int.reduceAdd, Int.reduceSub, Int.reduceLE, Int.reduceLT, Int.reduceEq, Int.reduceNe, Int.reduceToNat, Int.reduceNeg, reduceIte, reduceCtorEq, penOf, apend]
      refine next_of (kv := fun x => Value.string x) (vv := fun x => Value.int .i64 x) (fun v => (astr v)) (fun _ => rfl) (fun v => (aint v)) (fun _ => rfl) H hD 0 1 a1 rfl rfl (fun c1 => ?_) (fun i1 g2 v3 g3 h11 hD H => ?_)
      · replace hm := hm.1 c1
        simp (maxSteps := 4000000) -implicitDefEqProofs (disch := omega) only [push_cast, Nat.reduceAdd, Nat.reduceLeDiff, Nat.reduceMul, Nat.reduceSub, Nat.reduceLT, Nat.reduceEqDiff, Int.reduceAdd, Int.reduceSub, Int.reduceLE, Int.reduceLT, Int.reduceEq, Int.reduceNe, Int.reduceToNat, Int.reduceNeg, reduceIte, reduceCtorEq, penOf, apend]
        replace H := H.perm [0] (by decide)
        obtain ⟨hD, H⟩ := Ownr.dropR (rs := [(b1, mapObj (a1.map fun p => (Value.string p.1, Value.int .i64 p.2)))]) (rs2 := [(b3, iterObj b1 a1.length a4)]) ⟨hD, H⟩
        exact ⟨a3, x2, h10, by simp [Like, push_cast], rfl, hD, H, hm⟩
      · replace hm := hm.2 i1 g2 v3 g3
        replace hD : RawOK h0 [(b1, mapObj (a1.map fun p => (Value.string p.1, Value.int .i64 p.2))), (b3, iterObj b1 a1.length (a4.push i1))] := hD
        replace H : AM.Own (h0.addR [(b1, mapObj (a1.map fun p => (Value.string p.1, Value.int .i64 p.2))), (b3, iterObj b1 a1.length (a4.push i1))]) h11 [⟨x2, false, 1, a3.map AM.encStr, some (9, 0)⟩] := H
        simp (maxSteps := 4000000) -implicitDefEqProofs (disch := omega) only [push_cast, Nat.reduceAdd, Nat.reduceLeDiff, Nat.reduceMul, Nat.reduceSub, Nat.reduceLT, Nat.reduceEqDiff, Int.reduceAdd, Int.reduceSub, Int.reduceLE, Int.reduceLT, Int.reduceEq, Int.reduceNe, Int.reduceToNat, Int.reduceNeg, reduceIte, reduceCtorEq, penOf, apend]
        refine entry_of (kv := fun x => Value.string x) (vv := fun x => Value.int .i64 x) (fun v => (astr v)) (fun _ => rfl) (fun v => (aint v)) (fun _ => rfl) H hD 0 1 a1 g3 rfl rfl ?_
        simp (maxSteps := 4000000) -implicitDefEqProofs (disch := omega) only [push_cast, Nat.reduceAdd, Nat.reduceLeDiff, Nat.reduceMul, Nat.reduceSub, Nat.reduceLT, Nat.reduceEqDiff, Int.reduceAdd, Int.reduceSub, Int.reduceLE, Int.reduceLT, Int.reduceEq, Int.reduceNe, Int.reduceToNat, Int.reduceNeg, reduceIte, reduceCtorEq, penOf, apend]
        refine H.newL (E := AM.encStr) ([v3.1] : List ByteArray) rfl rfl (fun b4 h12 H => ?_)
        simp (maxSteps := 4000000) -implicitDefEqProofs (disch := omega) only [push_cast, Nat.reduceAdd, Nat.reduceLeDiff, Nat.reduceMul, Nat.reduceSub, Nat.reduceLT, Nat.reduceEqDiff, Int.reduceAdd, Int.reduceSub, Int.reduceLE, Int.reduceLT, Int.reduceEq, Int.reduceNe, Int.reduceToNat, Int.reduceNeg, reduceIte, reduceCtorEq, penOf, apend, H.src (e := 9) 1 rfl]
        obtain ⟨w2, hm⟩ := hm
        refine H.appL (E := AM.encStr) 0 ([v3.1] : List ByteArray) rfl rfl rfl (by decide) (by decide) w2 (fun x3 h13 H => ?_)
        simp (maxSteps := 4000000) -implicitDefEqProofs (disch := omega) only [push_cast, Nat.reduceAdd, Nat.reduceLeDiff, Nat.reduceMul, Nat.reduceSub, Nat.reduceLT, Nat.reduceEqDiff, Int.reduceAdd, Int.reduceSub, Int.reduceLE, Int.reduceLT, Int.reduceEq, Int.reduceNe, Int.reduceToNat, Int.reduceNeg, reduceIte, reduceCtorEq, penOf, apend]
        replace H := H.perm [0] (by decide)
        exact ⟨⟨(a3 ++ ([v3.1] : List ByteArray), a4.push i1), x3, h13⟩, hm.2, ⟨hm.1, hD, H⟩, Retell.weak (by simp [Weak, push_cast]) (Hp.sub.refl _)⟩
    · rintro ⟨tm, h8⟩ ⟨a2, x1, _, hL, rfl, hD, H, hm⟩
      dsimp only at hL H
      obtain ⟨D, rfl⟩ := hL.fill 0
      replace hm := hk1 _ hm
      simp (maxSteps := 4000000) -implicitDefEqProofs (disch := omega) only [push_cast, Nat.reduceAdd, Nat.reduceLeDiff, Nat.reduceMul, Nat.reduceSub, Nat.reduceLT, Nat.reduceEqDiff, Int.reduceAdd, Int.reduceSub, Int.reduceLE, Int.reduceLT, Int.reduceEq, Int.reduceNe, Int.reduceToNat, Int.reduceNeg, reduceIte, reduceCtorEq, penOf, apend]
      obtain ⟨w3, hm⟩ := hm
      refine calls_of (sort_ok H 0 rfl w3) ?_
      rintro _ h14 ⟨rfl, H'⟩
      replace H := H'
      replace H : AM.Own (h0.addR [(b1, mapObj (a1.map fun p => (Value.string p.1, Value.int .i64 p.2)))]) h14 [⟨x1, false, 1, (sortB a2).map AM.encStr, some (9, 0)⟩] := H
      simp (maxSteps := 4000000) -implicitDefEqProofs (disch := omega) only [push_cast, Nat.reduceAdd, Nat.reduceLeDiff, Nat.reduceMul, Nat.reduceSub, Nat.reduceLT, Nat.reduceEqDiff, Int.reduceAdd, Int.reduceSub, Int.reduceLE, Int.reduceLT, Int.reduceEq, Int.reduceNe, Int.reduceToNat, Int.reduceNeg, reduceIte, reduceCtorEq, penOf, apend]
      obtain ⟨h15, s1, H⟩ := H.freeze 0 rfl
      exact retQ_back (.inl rfl) (sortB a2) _ rfl s1 (Ownr.sub ⟨hD, H⟩) hm
end Go.Proofs.Ytnenodamppageaa
