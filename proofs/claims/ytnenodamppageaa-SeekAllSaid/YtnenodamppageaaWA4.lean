/- Functions of the program: code, what is asked for their answers, the walk (printed by pr.py). -/
import Derived.Test.YtnenodamppageaaWA3
namespace Go.Proofs.Ytnenodamppageaa
open Go Go.Proofs.Ytnenodamppageaa.AM
set_option maxRecDepth 100000
set_option linter.unusedSimpArgs false
set_option linter.unusedVariables false
set_option maxHeartbeats 4000000
/-! stylus/stylusref33.Words -/
abbrev n_stylusref33_Words : Nat := 7
noncomputable def code_stylusref33_Words : Code := match Try.f7.body with | some c => c | none => .skip
def ann_stylusref33_Words : Nat → Ann
  | 10 => { pure := [], plan := (.op 0 (.op 1 (.op 2 (.op 3 (.op 4 (.op 5 (.op 6 (.op 7 (.op 8 (.op 9 (.op 10 (.op 11 .done)))))))))))), ghost := false, post := false }
  | _ => {}
noncomputable def ac_stylusref33_Words_c1 : AC :=
  (.seq (.block 1 (.seq (.seq (.reg [⟨some 13, (Op.move (Operand.tmp 0)), none, false⟩, ⟨some 14, (Op.move (Operand.tmp 4)), none, false⟩, ⟨some 15, (Op.call (Call.mk (Callee.value (Operand.func 20)) #[(Operand.tmp 13), (Operand.tmp 14)] #[22, 3])), none, false⟩, ⟨some 16, (Op.unOp UnOp.not 4 (Operand.tmp 15)), none, false⟩, ⟨some 17, (Op.move (Operand.tmp 16)), none, false⟩, ⟨some 18, (Op.move (Operand.tmp 0)), (some (some 17, false)), false⟩, ⟨some 19, (Op.move (Operand.tmp 4)), (some (some 17, false)), false⟩, ⟨some 20, (Op.binOp BinOp.sub 3 (Operand.tmp 19) (Operand.const (Value.int IntKind.i64 1)) 3), (some (some 17, false)), false⟩, ⟨some 21, (Op.call (Call.mk (Callee.value (Operand.func 20)) #[(Operand.tmp 18), (Operand.tmp 20)] #[22, 3])), (some (some 17, false)), false⟩, ⟨some 22, (Op.pick (Operand.tmp 17) (Operand.const (Value.bool true)) (Operand.tmp 21)), none, false⟩]) (.cond (Operand.tmp 22) (.exit 1) .skip)) (.seq (.reg [⟨some 23, (Op.move (Operand.tmp 4)), none, false⟩, ⟨some 24, (Op.build 30 #[(0, (Operand.tmp 23))]), none, false⟩, ⟨some 5, (Op.alloc 30), none, false⟩, ⟨none, (Op.store 30 (Operand.tmp 5) (Operand.tmp 24)), none, false⟩]) (.seq (.seq (.reg [⟨some 25, (Op.move (Operand.tmp 4)), none, false⟩, ⟨some 6, (Op.assign (Operand.tmp 25)), none, false⟩]) (.block 2 (.loop (.seq (.seq (.reg [⟨some 26, (Op.move (Operand.tmp 0)), none, false⟩, ⟨some 27, (Op.move (Operand.tmp 6)), none, false⟩, ⟨some 28, (Op.call (Call.mk (Callee.value (Operand.func 20)) #[(Operand.tmp 26), (Operand.tmp 27)] #[22, 3])), none, false⟩]) (.cond (Operand.tmp 28) .skip (.exit 2))) (.seq (.block 3 (.draw [⟨some 31, (Op.fieldAddr 30 (Operand.tmp 5) 1), none, false⟩, ⟨some 32, (Op.load 9 (Operand.tmp 31)), none, false⟩, ⟨some 33, (Op.move (Operand.tmp 0)), none, false⟩, ⟨some 34, (Op.move (Operand.tmp 6)), none, false⟩, ⟨some 35, (Op.indexAddr 22 (Operand.tmp 33) (Operand.tmp 34)), none, false⟩, ⟨some 36, (Op.fieldAddr 38 (Operand.tmp 35) 1), none, false⟩, ⟨some 37, (Op.load 5 (Operand.tmp 36)), none, false⟩, ⟨some 38, (Op.buildSlice 47 1 #[(0, (Operand.tmp 37))]), none, false⟩, ⟨some 39, (Op.convert 47 9 (Operand.tmp 38)), none, false⟩, ⟨some 40, (Op.binOp BinOp.add 9 (Operand.tmp 32) (Operand.tmp 39) 9), none, false⟩, ⟨some 41, (Op.fieldAddr 30 (Operand.tmp 5) 1), none, false⟩, ⟨none, (Op.store 9 (Operand.tmp 41) (Operand.tmp 40)), none, false⟩] (.op 0 (.op 1 (.op 2 (.op 3 (.op 4 (.op 5 (.op 6 (.op 7 (.op 8 (.op 9 (.op 10 (.op 11 .done)))))))))))))) (.reg [⟨some 29, (Op.move (Operand.tmp 6)), none, false⟩, ⟨some 30, (Op.binOp BinOp.add 3 (Operand.tmp 29) (Operand.const (Value.int IntKind.i64 1)) 3), none, false⟩, ⟨some 6, (Op.assign (Operand.tmp 30)), none, false⟩])))))) (.reg [⟨some 42, (Op.move (Operand.tmp 3)), none, false⟩, ⟨some 43, (Op.load 30 (Operand.tmp 5)), none, false⟩, ⟨some 44, (Op.buildSlice 24 1 #[(0, (Operand.tmp 43))]), none, false⟩, ⟨some 45, (Op.call (Call.mk (Callee.builtin Builtin.append) #[(Operand.tmp 42), (Operand.tmp 44)] #[24, 24])), none, false⟩, ⟨some 3, (Op.assign (Operand.tmp 45)), none, false⟩]))))) (.reg [⟨some 11, (Op.move (Operand.tmp 4)), none, false⟩, ⟨some 12, (Op.binOp BinOp.add 3 (Operand.tmp 11) (Operand.const (Value.int IntKind.i64 1)) 3), none, false⟩, ⟨some 4, (Op.assign (Operand.tmp 12)), none, false⟩]))
noncomputable def ac_stylusref33_Words : AC :=
  (.seq (.reg [⟨some 2, (Op.assign (Operand.const (Value.slice none 0 0))), none, false⟩]) (.seq (.reg [⟨some 3, (Op.assign (Operand.const (Value.slice none 0 0))), none, false⟩]) (.seq (.seq (.reg [⟨some 4, (Op.assign (Operand.const (Value.int IntKind.i64 0))), none, false⟩]) (.block 0 (.loop (.seq (.seq (.reg [⟨some 7, (Op.move (Operand.tmp 4)), none, false⟩, ⟨some 8, (Op.move (Operand.tmp 0)), none, false⟩, ⟨some 9, (Op.call (Call.mk (Callee.builtin Builtin.len) #[(Operand.tmp 8)] #[22])), none, false⟩, ⟨some 10, (Op.binOp BinOp.lss 3 (Operand.tmp 7) (Operand.tmp 9) 3), none, false⟩]) (.cond (Operand.tmp 10) .skip (.exit 0))) ac_stylusref33_Words_c1)))) (.seq (.reg [⟨some 46, (Op.move (Operand.tmp 3)), none, false⟩, ⟨some 2, (Op.assign (Operand.tmp 46)), none, false⟩]) .ret))))
theorem body_stylusref33_Words : Try.f7.body = some code_stylusref33_Words := by kernel_rfl
theorem slim_stylusref33_Words : slim ann_stylusref33_Words code_stylusref33_Words = some ac_stylusref33_Words := by kernel_rfl
theorem name_stylusref33_Words : (Try.f7.name == "runtime.NumGoroutine") = false := by kernel_rfl
theorem enter_stylusref33_Words {args : List AV} {h : Hp} {Q : AE → Hp → Prop} (H : awp Try.prog tab ac_stylusref33_Words (retQ tab [(ResultVar.tmp 2)] Q) ⟨args ++ List.replicate (47 - args.length) .any, h⟩) : ACalls Try.prog 7 args h Q :=
  acalls_of tab_ok mixed Try.func7 body_stylusref33_Words name_stylusref33_Words slim_stylusref33_Words rfl Try.ntmps7 H
/-- stylus/stylusref33.Words -/
def stylusref33_Words.w (a0_ : List ApiTok) (Q : (List Stylusref33Word) → Prop) : Prop :=
  wloop (σ := (List Stylusref33Word) × Int) (fun ⟨a1, a2⟩ next1 =>
    if a2 < (a0_.length : Int) then
      wcut (α := (List Stylusref33Word)) (fun k1 =>
        stylusref33_letter.w a0_ a2 (fun r1 =>
          if (!r1) = true then
            k1 a1
          else
            (I64 (a2 - 1)) ∧
            stylusref33_letter.w a0_ (a2 - 1) (fun r2 =>
              if r2 = true then
                k1 a1
              else
                wloop (σ := Stylusref33Word × Int) (fun ⟨a4, a5⟩ next2 =>
                  stylusref33_letter.w a0_ a5 (fun r3 =>
                    if r3 = true then
                      (0 ≤ a5) ∧
                      ∃ v1 : ApiTok, a0_[a5.toNat]? = some v1 ∧
                      (a4.Text.size + (ofBytes ([v1.Ch] : List Int)).size ≤ 9223372036854775807) ∧
                      (I64 (a5 + 1)) ∧
                      next2 ((⟨a4.At, a4.Text ++ (ofBytes ([v1.Ch] : List Int))⟩ : Stylusref33Word), a5 + 1)
                    else
                      ((a1.length + ([a4] : List Stylusref33Word).length) * 24 ≤ 140737488355328) ∧
                      k1 (a1 ++ ([a4] : List Stylusref33Word)))) ((⟨a2, (ByteArray.mk #[])⟩ : Stylusref33Word), a2)))) (fun a3 =>
        (I64 (a2 + 1)) ∧
        next1 (a3, a2 + 1))
    else
      Q a1) (([] : List Stylusref33Word), 0)
theorem stylusref33_Words.ok {a0_ : List ApiTok} {Q : (List Stylusref33Word) → Prop} (hm : stylusref33_Words.w a0_ Q) (h0 : Hp) : ACalls Try.prog n_stylusref33_Words [(.isl 3 (a0_.map ApiTok.enc))] h0 (Back h0 (fun r => (.isl 2 (r.map Stylusref33Word.enc))) Q) := by
  refine enter_stylusref33_Words ?_
  unfold stylusref33_Words.w at hm
  have H := AM.Own.nil h0
  simp (maxSteps := 4000000) -implicitDefEqProofs (disch := omega) only [push_cast, Nat.reduceAdd, Nat.reduceLeDiff, Nat.reduceMul, Nat.reduceSub, Nat.reduceLT, Nat.reduceEqDiff, Int.reduceAdd, Int.reduceSub, Int.reduceLE, Int.reduceLT, Int.reduceEq, Int.reduceNe, Int.reduceToNat, Int.reduceNeg, reduceIte, reduceCtorEq, ac_stylusref33_Words]
  obtain ⟨inv1, mu1, hi1, hs1⟩ := hm
  replace H := H.addNil 2 (some (30, 0))
  replace H := H.perm [0] (by decide)
  refine awp_loop (σ := ((List Stylusref33Word) × Int) × AV × Hp) (fun ⟨⟨a1, a2⟩, x1, h1⟩ => ⟨(((List.replicate 47 AV.any).set 0 (.isl 3 (a0_.map ApiTok.enc))).set 3 x1).set 4 (aint a2), h1⟩) (fun ⟨⟨a1, a2⟩, x1, h1⟩ => inv1 (a1, a2) ∧ AM.Own h0 h1 [⟨x1, false, 2, a1.map Stylusref33Word.enc, some (30, 0)⟩]) (fun ⟨⟨a1, a2⟩, x1, h1⟩ => mu1 (a1, a2)) ⟨(([] : List Stylusref33Word), 0), anil, h0⟩ (Retell.weak (by simp [Weak, push_cast]) (Hp.sub.refl _)) ⟨hi1, H⟩ ?_
  rintro ⟨⟨a1, a2⟩, x1, h1⟩ ⟨hi1, H⟩
  have hm := hs1 _ hi1
  dsimp only at hm H ⊢
  simp (maxSteps := 4000000) -implicitDefEqProofs (disch := omega) only [push_cast, Nat.reduceAdd, Nat.reduceLeDiff, Nat.reduceMul, Nat.reduceSub, Nat.reduceLT, Nat.reduceEqDiff, Int.reduceAdd, Int.reduceSub, Int.reduceLE, Int.reduceLT, Int.reduceEq, Int.reduceNe, Int.reduceToNat, Int.reduceNeg, reduceIte, reduceCtorEq]
  rw [fork_cond]
  refine ⟨fun c1 => ?_, fun c1 => ?_⟩
  · replace hm := ifp hm c1
    simp (maxSteps := 4000000) -implicitDefEqProofs (disch := omega) only [push_cast, Nat.reduceAdd, Nat.reduceLeDiff, Nat.reduceMul, Nat.reduceSub, Nat.reduceLT, Nat.reduceEqDiff, Int.reduceAdd, Int.reduceSub, Int.reduceLE, Int.reduceLT, Int.reduceEq, Int.reduceNe, Int.reduceToNat, Int.reduceNeg, reduceIte, reduceCtorEq, eq_true c1]
    obtain ⟨k1, hm, hk1⟩ := wcut_elim hm
    refine awp_cut (fun s' => ∃ (a3 : List Stylusref33Word) (x2 : AV) (h2 : Hp), Like s'.tm ((((List.replicate 47 none).set 0 (some (.isl 3 (a0_.map ApiTok.enc)))).set 3 (some x2)).set 4 (some (aint a2))) ∧ s'.h = h2 ∧ AM.Own h0 h2 [⟨x2, false, 2, a3.map Stylusref33Word.enc, some (30, 0)⟩] ∧ k1 a3) ?_ ?_
    · simp (maxSteps := 4000000) -implicitDefEqProofs (disch := omega) only [push_cast, Nat.reduceAdd, Nat.reduceLeDiff, Nat.reduceMul, Nat.reduceSub, Nat.reduceLT, Nat.reduceEqDiff, Int.reduceAdd, Int.reduceSub, Int.reduceLE, Int.reduceLT, Int.reduceEq, Int.reduceNe, Int.reduceToNat, Int.reduceNeg, reduceIte, reduceCtorEq, eq_true c1]
      refine calls_w (fun h => stylusref33_letter.ok hm h) (fun r1 hm => ?_)
      simp (maxSteps := 4000000) -implicitDefEqProofs (disch := omega) only [push_cast, Nat.reduceAdd, Nat.reduceLeDiff, Nat.reduceMul, Nat.reduceSub, Nat.reduceLT, Nat.reduceEqDiff, Int.reduceAdd, Int.reduceSub, Int.reduceLE, Int.reduceLT, Int.reduceEq, Int.reduceNe, Int.reduceToNat, Int.reduceNeg, reduceIte, reduceCtorEq, eq_true c1]
      rw [gfork_bool']
      refine ⟨fun c2 => ?_, fun c2 => ?_⟩
      · replace hm := ifp hm c2
        simp (maxSteps := 4000000) -implicitDefEqProofs (disch := omega) only [push_cast, Nat.reduceAdd, Nat.reduceLeDiff, Nat.reduceMul, Nat.reduceSub, Nat.reduceLT, Nat.reduceEqDiff, Int.reduceAdd, Int.reduceSub, Int.reduceLE, Int.reduceLT, Int.reduceEq, Int.reduceNe, Int.reduceToNat, Int.reduceNeg, reduceIte, reduceCtorEq, eq_true c1, c2]
        replace H := H.perm [0] (by decide)
        exact ⟨a1, x1, h1, by simp [Like, push_cast], rfl, H, hm⟩
      · replace hm := ifn hm (by rw [c2]; exact Bool.false_ne_true)
        obtain ⟨w1, hm⟩ := hm
        simp (maxSteps := 4000000) -implicitDefEqProofs (disch := omega) only [push_cast, Nat.reduceAdd, Nat.reduceLeDiff, Nat.reduceMul, Nat.reduceSub, Nat.reduceLT, Nat.reduceEqDiff, Int.reduceAdd, Int.reduceSub, Int.reduceLE, Int.reduceLT, Int.reduceEq, Int.reduceNe, Int.reduceToNat, Int.reduceNeg, reduceIte, reduceCtorEq, eq_true c1, c2, wrap_i64 _ w1]
        refine calls_w (fun h => stylusref33_letter.ok hm h) (fun r2 hm => ?_)
        simp (maxSteps := 4000000) -implicitDefEqProofs (disch := omega) only [push_cast, Nat.reduceAdd, Nat.reduceLeDiff, Nat.reduceMul, Nat.reduceSub, Nat.reduceLT, Nat.reduceEqDiff, Int.reduceAdd, Int.reduceSub, Int.reduceLE, Int.reduceLT, Int.reduceEq, Int.reduceNe, Int.reduceToNat, Int.reduceNeg, reduceIte, reduceCtorEq, eq_true c1, c2, wrap_i64 _ w1]
        rw [fork_bool]
        refine ⟨fun c3 => ?_, fun c3 => ?_⟩
        · replace hm := ifp hm c3
          simp (maxSteps := 4000000) -implicitDefEqProofs (disch := omega) only [push_cast, Nat.reduceAdd, Nat.reduceLeDiff, Nat.reduceMul, Nat.reduceSub, Nat.reduceLT, Nat.reduceEqDiff, Int.reduceAdd, Int.reduceSub, Int.reduceLE, Int.reduceLT, Int.reduceEq, Int.reduceNe, Int.reduceToNat, Int.reduceNeg, reduceIte, reduceCtorEq, eq_true c1, c2, wrap_i64 _ w1, c3]
          replace H := H.perm [0] (by decide)
          exact ⟨a1, x1, h1, by simp [Like, push_cast], rfl, H, hm⟩
        · replace hm := ifn hm (by rw [c3]; exact Bool.false_ne_true)
          simp (maxSteps := 4000000) -implicitDefEqProofs (disch := omega) only [push_cast, Nat.reduceAdd, Nat.reduceLeDiff, Nat.reduceMul, Nat.reduceSub, Nat.reduceLT, Nat.reduceEqDiff, Int.reduceAdd, Int.reduceSub, Int.reduceLE, Int.reduceLT, Int.reduceEq, Int.reduceNe, Int.reduceToNat, Int.reduceNeg, reduceIte, reduceCtorEq, eq_true c1, c2, wrap_i64 _ w1, c3]
          refine H.newR [(aint 0), (astr (ByteArray.mk #[]))] rfl (fun b1 h3 H => ?_)
          have e1 := H.getP 1 rfl
          simp (maxSteps := 4000000) -implicitDefEqProofs (disch := omega) only [push_cast, Nat.reduceAdd, Nat.reduceLeDiff, Nat.reduceMul, Nat.reduceSub, Nat.reduceLT, Nat.reduceEqDiff, Int.reduceAdd, Int.reduceSub, Int.reduceLE, Int.reduceLT, Int.reduceEq, Int.reduceNe, Int.reduceToNat, Int.reduceNeg, reduceIte, reduceCtorEq, eq_true c1, c2, wrap_i64 _ w1, c3, e1]
          refine H.stP 1 [(aint a2), (astr (ByteArray.mk #[]))] rfl rfl rfl rfl (Nat.le_of_ble_eq_true rfl) rfl (fun h4 H => ?_)
          have e1 := H.getP 1 rfl
          simp (maxSteps := 4000000) -implicitDefEqProofs (disch := omega) only [push_cast, Nat.reduceAdd, Nat.reduceLeDiff, Nat.reduceMul, Nat.reduceSub, Nat.reduceLT, Nat.reduceEqDiff, Int.reduceAdd, Int.reduceSub, Int.reduceLE, Int.reduceLT, Int.reduceEq, Int.reduceNe, Int.reduceToNat, Int.reduceNeg, reduceIte, reduceCtorEq, eq_true c1, c2, wrap_i64 _ w1, c3, e1]
          obtain ⟨inv2, mu2, hi2, hs2⟩ := hm
          replace H := H.perm [0, 1] (by decide)
          refine awp_loop (σ := (Stylusref33Word × Int) × Hp) (fun ⟨⟨a4, a5⟩, h5⟩ => ⟨(((((List.replicate 47 AV.any).set 0 (.isl 3 (a0_.map ApiTok.enc))).set 3 x1).set 4 (aint a2)).set 5 (.optr b1 2 0 0)).set 6 (aint a5), h5⟩) (fun ⟨⟨a4, a5⟩, h5⟩ => inv2 (a4, a5) ∧ AM.Own h0 h5 [⟨x1, false, 2, a1.map Stylusref33Word.enc, some (30, 0)⟩, ⟨(.optr b1 2 0 0), true, 2, [(Stylusref33Word.enc a4)], some (30, 2)⟩]) (fun ⟨⟨a4, a5⟩, h5⟩ => mu2 (a4, a5)) ⟨((⟨a2, (ByteArray.mk #[])⟩ : Stylusref33Word), a2), h4⟩ (Retell.weak (by simp [Weak, push_cast]) (Hp.sub.refl _)) ⟨hi2, H⟩ ?_
          rintro ⟨⟨a4, a5⟩, h5⟩ ⟨hi2, H⟩
          have hm := hs2 _ hi2
          dsimp only at hm H ⊢
          have e1 := H.getP 1 rfl
          simp (maxSteps := 4000000) -implicitDefEqProofs (disch := omega) only [push_cast, Nat.reduceAdd, Nat.reduceLeDiff, Nat.reduceMul, Nat.reduceSub, Nat.reduceLT, Nat.reduceEqDiff, Int.reduceAdd, Int.reduceSub, Int.reduceLE, Int.reduceLT, Int.reduceEq, Int.reduceNe, Int.reduceToNat, Int.reduceNeg, reduceIte, reduceCtorEq, eq_true c1, c2, wrap_i64 _ w1, c3, e1]
          refine calls_w (fun h => stylusref33_letter.ok hm h) (fun r3 hm => ?_)
          have e1 := H.getP 1 rfl
          simp (maxSteps := 4000000) -implicitDefEqProofs (disch := omega) only [push_cast, Nat.reduceAdd, Nat.reduceLeDiff, Nat.reduceMul, Nat.reduceSub, Nat.reduceLT, Nat.reduceEqDiff, Int.reduceAdd, Int.reduceSub, Int.reduceLE, Int.reduceLT, Int.reduceEq, Int.reduceNe, Int.reduceToNat, Int.reduceNeg, reduceIte, reduceCtorEq, eq_true c1, c2, wrap_i64 _ w1, c3, e1]
          rw [fork_bool]
          refine ⟨fun c4 => ?_, fun c4 => ?_⟩
          · replace hm := ifp hm c4
            obtain ⟨z1, hm⟩ := hm
            obtain ⟨v1, i1, hm⟩ := hm
            have e1 := H.getP 1 rfl
            simp (maxSteps := 4000000) -implicitDefEqProofs (disch := omega) only [push_cast, Nat.reduceAdd, Nat.reduceLeDiff, Nat.reduceMul, Nat.reduceSub, Nat.reduceLT, Nat.reduceEqDiff, Int.reduceAdd, Int.reduceSub, Int.reduceLE, Int.reduceLT, Int.reduceEq, Int.reduceNe, Int.reduceToNat, Int.reduceNeg, reduceIte, reduceCtorEq, eq_true c1, c2, wrap_i64 _ w1, c3, c4, eq_true z1, i1, e1]
            refine H.newL (E := encU8) ([v1.Ch] : List Int) rfl rfl (fun b2 h6 H => ?_)
            obtain ⟨w2, hm⟩ := hm
            have e1 := H.getP 1 rfl
            simp (maxSteps := 4000000) -implicitDefEqProofs (disch := omega) only [push_cast, Nat.reduceAdd, Nat.reduceLeDiff, Nat.reduceMul, Nat.reduceSub, Nat.reduceLT, Nat.reduceEqDiff, Int.reduceAdd, Int.reduceSub, Int.reduceLE, Int.reduceLT, Int.reduceEq, Int.reduceNe, Int.reduceToNat, Int.reduceNeg, reduceIte, reduceCtorEq, eq_true c1, c2, wrap_i64 _ w1, c3, c4, eq_true z1, i1, eq_true w2, H.text 2 rfl tab_47 tab_9 tab_5, e1]
            refine H.stP 1 [(aint a4.At), (astr (a4.Text ++ (ofBytes ([v1.Ch] : List Int))))] rfl rfl rfl rfl (Nat.le_of_ble_eq_true rfl) rfl (fun h7 H => ?_)
            obtain ⟨w3, hm⟩ := hm
            have e1 := H.getP 1 rfl
            simp (maxSteps := 4000000) -implicitDefEqProofs (disch := omega) only [push_cast, Nat.reduceAdd, Nat.reduceLeDiff, Nat.reduceMul, Nat.reduceSub, Nat.reduceLT, Nat.reduceEqDiff, Int.reduceAdd, Int.reduceSub, Int.reduceLE, Int.reduceLT, Int.reduceEq, Int.reduceNe, Int.reduceToNat, Int.reduceNeg, reduceIte, reduceCtorEq, eq_true c1, c2, wrap_i64 _ w1, c3, c4, eq_true z1, i1, eq_true w2, wrap_i64 _ w3, e1]
            replace H := H.perm [0, 1] (by decide)
            exact ⟨⟨((⟨a4.At, a4.Text ++ (ofBytes ([v1.Ch] : List Int))⟩ : Stylusref33Word), a5 + 1), h7⟩, hm.2, ⟨hm.1, H⟩, Retell.weak (by simp [Weak, push_cast]) (Hp.sub.refl _)⟩
          · replace hm := ifn hm (by rw [c4]; exact Bool.false_ne_true)
            have e1 := H.getP 1 rfl
            simp (maxSteps := 4000000) -implicitDefEqProofs (disch := omega) only [push_cast, Nat.reduceAdd, Nat.reduceLeDiff, Nat.reduceMul, Nat.reduceSub, Nat.reduceLT, Nat.reduceEqDiff, Int.reduceAdd, Int.reduceSub, Int.reduceLE, Int.reduceLT, Int.reduceEq, Int.reduceNe, Int.reduceToNat, Int.reduceNeg, reduceIte, reduceCtorEq, eq_true c1, c2, wrap_i64 _ w1, c3, c4, e1]
            refine H.newL (E := Stylusref33Word.enc) ([a4] : List Stylusref33Word) rfl rfl (fun b3 h8 H => ?_)
            have e1 := H.getP 1 rfl
            simp (maxSteps := 4000000) -implicitDefEqProofs (disch := omega) only [push_cast, Nat.reduceAdd, Nat.reduceLeDiff, Nat.reduceMul, Nat.reduceSub, Nat.reduceLT, Nat.reduceEqDiff, Int.reduceAdd, Int.reduceSub, Int.reduceLE, Int.reduceLT, Int.reduceEq, Int.reduceNe, Int.reduceToNat, Int.reduceNeg, reduceIte, reduceCtorEq, eq_true c1, c2, wrap_i64 _ w1, c3, c4, H.src (e := 30) 2 rfl, e1]
            obtain ⟨w4, hm⟩ := hm
            refine H.appL (E := Stylusref33Word.enc) 0 ([a4] : List Stylusref33Word) rfl rfl rfl (by decide) (by decide) w4 (fun x3 h9 H => ?_)
            have e1 := H.getP 1 rfl
            simp (maxSteps := 4000000) -implicitDefEqProofs (disch := omega) only [push_cast, Nat.reduceAdd, Nat.reduceLeDiff, Nat.reduceMul, Nat.reduceSub, Nat.reduceLT, Nat.reduceEqDiff, Int.reduceAdd, Int.reduceSub, Int.reduceLE, Int.reduceLT, Int.reduceEq, Int.reduceNe, Int.reduceToNat, Int.reduceNeg, reduceIte, reduceCtorEq, eq_true c1, c2, wrap_i64 _ w1, c3, c4, e1]
            replace H := H.perm [0] (by decide)
            exact ⟨a1 ++ ([a4] : List Stylusref33Word), x3, h9, by simp [Like, push_cast], rfl, H, hm⟩
    · rintro ⟨tm, h2⟩ ⟨a3, x2, _, hL, rfl, H, hm⟩
      dsimp only at hL H
      obtain ⟨D, rfl⟩ := hL.fill 0
      replace hm := hk1 _ hm
      obtain ⟨w5, hm⟩ := hm
      simp (maxSteps := 4000000) -implicitDefEqProofs (disch := omega) only [push_cast, Nat.reduceAdd, Nat.reduceLeDiff, Nat.reduceMul, Nat.reduceSub, Nat.reduceLT, Nat.reduceEqDiff, Int.reduceAdd, Int.reduceSub, Int.reduceLE, Int.reduceLT, Int.reduceEq, Int.reduceNe, Int.reduceToNat, Int.reduceNeg, reduceIte, reduceCtorEq, eq_true c1, wrap_i64 _ w5]
      replace H := H.perm [0] (by decide)
      exact ⟨⟨(a3, a2 + 1), x2, h2⟩, hm.2, ⟨hm.1, H⟩, Retell.weak (by simp [Weak, push_cast]) (Hp.sub.refl _)⟩
  · replace hm := ifn hm c1
    simp (maxSteps := 4000000) -implicitDefEqProofs (disch := omega) only [push_cast, Nat.reduceAdd, Nat.reduceLeDiff, Nat.reduceMul, Nat.reduceSub, Nat.reduceLT, Nat.reduceEqDiff, Int.reduceAdd, Int.reduceSub, Int.reduceLE, Int.reduceLT, Int.reduceEq, Int.reduceNe, Int.reduceToNat, Int.reduceNeg, reduceIte, reduceCtorEq, eq_false c1]
    obtain ⟨h10, s1, H⟩ := H.freeze 0 rfl
    exact retQ_back (.inl rfl) a1 _ rfl s1 H.sub hm
/-! stylus/stylusref01.Lower -/
abbrev n_stylusref01_Lower : Nat := 29
noncomputable def code_stylusref01_Lower : Code := match Try.f29.body with | some c => c | none => .skip
def ann_stylusref01_Lower : Nat → Ann
  | _ => {}
noncomputable def ac_stylusref01_Lower : AC :=
  (.seq (.reg [⟨some 2, (Op.assign (Operand.const (Value.int IntKind.u8 0))), none, false⟩]) (.seq (.seq (.reg [⟨some 3, (Op.move (Operand.tmp 0)), none, false⟩, ⟨some 4, (Op.call (Call.mk (Callee.value (Operand.func 34)) #[(Operand.tmp 3)] #[5])), none, false⟩, ⟨some 5, (Op.binOp BinOp.eql 3 (Operand.tmp 4) (Operand.const (Value.int IntKind.i64 2)) 3), none, false⟩]) (.cond (Operand.tmp 5) (.seq (.reg [⟨some 6, (Op.move (Operand.tmp 0)), none, false⟩, ⟨some 7, (Op.binOp BinOp.sub 5 (Operand.tmp 6) (Operand.const (Value.int IntKind.u8 65)) 5), none, false⟩, ⟨some 8, (Op.binOp BinOp.add 5 (Operand.tmp 7) (Operand.const (Value.int IntKind.u8 97)) 5), none, false⟩, ⟨some 2, (Op.assign (Operand.tmp 8)), none, false⟩]) .ret) .skip)) (.seq (.reg [⟨some 9, (Op.move (Operand.tmp 0)), none, false⟩, ⟨some 2, (Op.assign (Operand.tmp 9)), none, false⟩]) .ret)))
theorem body_stylusref01_Lower : Try.f29.body = some code_stylusref01_Lower := by kernel_rfl
theorem slim_stylusref01_Lower : slim ann_stylusref01_Lower code_stylusref01_Lower = some ac_stylusref01_Lower := by kernel_rfl
theorem name_stylusref01_Lower : (Try.f29.name == "runtime.NumGoroutine") = false := by kernel_rfl
theorem enter_stylusref01_Lower {args : List AV} {h : Hp} {Q : AE → Hp → Prop} (H : awp Try.prog tab ac_stylusref01_Lower (retQ tab [(ResultVar.tmp 2)] Q) ⟨args ++ List.replicate (10 - args.length) .any, h⟩) : ACalls Try.prog 29 args h Q :=
  acalls_of tab_ok mixed Try.func29 body_stylusref01_Lower name_stylusref01_Lower slim_stylusref01_Lower rfl Try.ntmps29 H
/-- stylus/stylusref01.Lower -/
def stylusref01_Lower.w (a0_ : Int) (Q : Int → Prop) : Prop :=
  stylusref01_Class.w a0_ (fun r1 =>
    if r1 = 2 then
      Q (IntKind.u8.wrap ((IntKind.u8.wrap (a0_ - 65)) + 97))
    else
      Q a0_)
theorem stylusref01_Lower.ok {a0_ : Int} {Q : Int → Prop} (hm : stylusref01_Lower.w a0_ Q) (h0 : Hp) : ACalls Try.prog n_stylusref01_Lower [(.val (.int .u8 a0_))] h0 (Back h0 (fun r => (.val (.int .u8 r))) Q) := by
  refine enter_stylusref01_Lower ?_
  unfold stylusref01_Lower.w at hm
  have H := AM.Own.nil h0
  simp (maxSteps := 4000000) -implicitDefEqProofs (disch := omega) only [push_cast, Nat.reduceAdd, Nat.reduceLeDiff, Nat.reduceMul, Nat.reduceSub, Nat.reduceLT, Nat.reduceEqDiff, Int.reduceAdd, Int.reduceSub, Int.reduceLE, Int.reduceLT, Int.reduceEq, Int.reduceNe, Int.reduceToNat, Int.reduceNeg, reduceIte, reduceCtorEq, ac_stylusref01_Lower]
  refine calls_w (fun h => stylusref01_Class.ok hm h) (fun r1 hm => ?_)
  simp (maxSteps := 4000000) -implicitDefEqProofs (disch := omega) only [push_cast, Nat.reduceAdd, Nat.reduceLeDiff, Nat.reduceMul, Nat.reduceSub, Nat.reduceLT, Nat.reduceEqDiff, Int.reduceAdd, Int.reduceSub, Int.reduceLE, Int.reduceLT, Int.reduceEq, Int.reduceNe, Int.reduceToNat, Int.reduceNeg, reduceIte, reduceCtorEq]
  rw [fork_cond]
  refine ⟨fun c1 => ?_, fun c1 => ?_⟩
  · replace hm := ifp hm c1
    simp (maxSteps := 4000000) -implicitDefEqProofs (disch := omega) only [push_cast, Nat.reduceAdd, Nat.reduceLeDiff, Nat.reduceMul, Nat.reduceSub, Nat.reduceLT, Nat.reduceEqDiff, Int.reduceAdd, Int.reduceSub, Int.reduceLE, Int.reduceLT, Int.reduceEq, Int.reduceNe, Int.reduceToNat, Int.reduceNeg, reduceIte, reduceCtorEq, eq_true c1]
    exact retQ_back (.inl rfl) (IntKind.u8.wrap ((IntKind.u8.wrap (a0_ - 65)) + 97)) _ rfl (Shift.refl _ _) H.sub hm
  · replace hm := ifn hm c1
    simp (maxSteps := 4000000) -implicitDefEqProofs (disch := omega) only [push_cast, Nat.reduceAdd, Nat.reduceLeDiff, Nat.reduceMul, Nat.reduceSub, Nat.reduceLT, Nat.reduceEqDiff, Int.reduceAdd, Int.reduceSub, Int.reduceLE, Int.reduceLT, Int.reduceEq, Int.reduceNe, Int.reduceToNat, Int.reduceNeg, reduceIte, reduceCtorEq, eq_false c1]
    exact retQ_back (.inl rfl) a0_ _ rfl (Shift.refl _ _) H.sub hm
/-! stylus/stylusref01.Low -/
abbrev n_stylusref01_Low : Nat := 24
noncomputable def code_stylusref01_Low : Code := match Try.f24.body with | some c => c | none => .skip
def ann_stylusref01_Low : Nat → Ann
  | _ => {}
noncomputable def ac_stylusref01_Low : AC :=
  (.seq (.reg [⟨some 2, (Op.assign (Operand.const (Value.string (ByteArray.mk #[])))), none, false⟩]) (.seq (.reg [⟨some 3, (Op.assign (Operand.const (Value.slice none 0 0))), none, false⟩]) (.seq (.seq (.reg [⟨some 4, (Op.assign (Operand.const (Value.int IntKind.i64 0))), none, false⟩]) (.block 0 (.loop (.seq (.seq (.reg [⟨some 5, (Op.move (Operand.tmp 4)), none, false⟩, ⟨some 6, (Op.move (Operand.tmp 0)), none, false⟩, ⟨some 7, (Op.call (Call.mk (Callee.builtin Builtin.len) #[(Operand.tmp 6)] #[9])), none, false⟩, ⟨some 8, (Op.binOp BinOp.lss 3 (Operand.tmp 5) (Operand.tmp 7) 3), none, false⟩]) (.cond (Operand.tmp 8) .skip (.exit 0))) (.seq (.block 1 (.reg [⟨some 11, (Op.move (Operand.tmp 3)), none, false⟩, ⟨some 12, (Op.move (Operand.tmp 0)), none, false⟩, ⟨some 13, (Op.move (Operand.tmp 4)), none, false⟩, ⟨some 14, (Op.index 9 (Operand.tmp 12) (Operand.tmp 13)), none, false⟩, ⟨some 15, (Op.call (Call.mk (Callee.value (Operand.func 29)) #[(Operand.tmp 14)] #[5])), none, false⟩, ⟨some 16, (Op.buildSlice 47 1 #[(0, (Operand.tmp 15))]), none, false⟩, ⟨some 17, (Op.call (Call.mk (Callee.builtin Builtin.append) #[(Operand.tmp 11), (Operand.tmp 16)] #[47, 47])), none, false⟩, ⟨some 3, (Op.assign (Operand.tmp 17)), none, false⟩])) (.reg [⟨some 9, (Op.move (Operand.tmp 4)), none, false⟩, ⟨some 10, (Op.binOp BinOp.add 3 (Operand.tmp 9) (Operand.const (Value.int IntKind.i64 1)) 3), none, false⟩, ⟨some 4, (Op.assign (Operand.tmp 10)), none, false⟩])))))) (.seq (.reg [⟨some 18, (Op.move (Operand.tmp 3)), none, false⟩, ⟨some 19, (Op.convert 47 9 (Operand.tmp 18)), none, false⟩, ⟨some 2, (Op.assign (Operand.tmp 19)), none, false⟩]) .ret))))
theorem body_stylusref01_Low : Try.f24.body = some code_stylusref01_Low := by kernel_rfl
theorem slim_stylusref01_Low : slim ann_stylusref01_Low code_stylusref01_Low = some ac_stylusref01_Low := by kernel_rfl
theorem name_stylusref01_Low : (Try.f24.name == "runtime.NumGoroutine") = false := by kernel_rfl
theorem enter_stylusref01_Low {args : List AV} {h : Hp} {Q : AE → Hp → Prop} (H : awp Try.prog tab ac_stylusref01_Low (retQ tab [(ResultVar.tmp 2)] Q) ⟨args ++ List.replicate (20 - args.length) .any, h⟩) : ACalls Try.prog 24 args h Q :=
  acalls_of tab_ok mixed Try.func24 body_stylusref01_Low name_stylusref01_Low slim_stylusref01_Low rfl Try.ntmps24 H
/-- stylus/stylusref01.Low -/
def stylusref01_Low.w (a0_ : ByteArray) (Q : ByteArray → Prop) : Prop :=
  wloop (σ := (List Int) × Int) (fun ⟨a1, a2⟩ next1 =>
    if a2 < (a0_.size : Int) then
      (0 ≤ a2) ∧
      ∃ v1 : UInt8, a0_[a2.toNat]? = some v1 ∧
      stylusref01_Lower.w (v1.toNat : Int) (fun r1 =>
        ((a1.length + ([r1] : List Int).length) * 1 ≤ 140737488355328) ∧
        (I64 (a2 + 1)) ∧
        next1 (a1 ++ ([r1] : List Int), a2 + 1))
    else
      Q (ofBytes a1)) (([] : List Int), 0)
theorem stylusref01_Low.ok {a0_ : ByteArray} {Q : ByteArray → Prop} (hm : stylusref01_Low.w a0_ Q) (h0 : Hp) : ACalls Try.prog n_stylusref01_Low [(astr a0_)] h0 (Back h0 (fun r => (astr r)) Q) := by
  refine enter_stylusref01_Low ?_
  unfold stylusref01_Low.w at hm
  have H := AM.Own.nil h0
  simp (maxSteps := 4000000) -implicitDefEqProofs (disch := omega) only [push_cast, Nat.reduceAdd, Nat.reduceLeDiff, Nat.reduceMul, Nat.reduceSub, Nat.reduceLT, Nat.reduceEqDiff, Int.reduceAdd, Int.reduceSub, Int.reduceLE, Int.reduceLT, Int.reduceEq, Int.reduceNe, Int.reduceToNat, Int.reduceNeg, reduceIte, reduceCtorEq, ac_stylusref01_Low]
  obtain ⟨inv1, mu1, hi1, hs1⟩ := hm
  replace H := H.addNil 1 (some (5, 0))
  replace H := H.perm [0] (by decide)
  refine awp_loop (σ := ((List Int) × Int) × AV × Hp) (fun ⟨⟨a1, a2⟩, x1, h1⟩ => ⟨(((List.replicate 20 AV.any).set 0 (astr a0_)).set 3 x1).set 4 (aint a2), h1⟩) (fun ⟨⟨a1, a2⟩, x1, h1⟩ => inv1 (a1, a2) ∧ AM.Own h0 h1 [⟨x1, false, 1, a1.map encU8, some (5, 0)⟩]) (fun ⟨⟨a1, a2⟩, x1, h1⟩ => mu1 (a1, a2)) ⟨(([] : List Int), 0), anil, h0⟩ (Retell.weak (by simp [Weak, push_cast]) (Hp.sub.refl _)) ⟨hi1, H⟩ ?_
  rintro ⟨⟨a1, a2⟩, x1, h1⟩ ⟨hi1, H⟩
  have hm := hs1 _ hi1
  dsimp only at hm H ⊢
  simp (maxSteps := 4000000) -implicitDefEqProofs (disch := omega) only [push_cast, Nat.reduceAdd, Nat.reduceLeDiff, Nat.reduceMul, Nat.reduceSub, Nat.reduceLT, Nat.reduceEqDiff, Int.reduceAdd, Int.reduceSub, Int.reduceLE, Int.reduceLT, Int.reduceEq, Int.reduceNe, Int.reduceToNat, Int.reduceNeg, reduceIte, reduceCtorEq]
  rw [fork_cond]
  refine ⟨fun c1 => ?_, fun c1 => ?_⟩
  · replace hm := ifp hm c1
    obtain ⟨z1, hm⟩ := hm
    obtain ⟨v1, i1, hm⟩ := hm
    simp (maxSteps := 4000000) -implicitDefEqProofs (disch := omega) only [push_cast, Nat.reduceAdd, Nat.reduceLeDiff, Nat.reduceMul, Nat.reduceSub, Nat.reduceLT, Nat.reduceEqDiff, Int.reduceAdd, Int.reduceSub, Int.reduceLE, Int.reduceLT, Int.reduceEq, Int.reduceNe, Int.reduceToNat, Int.reduceNeg, reduceIte, reduceCtorEq, eq_true c1, eq_true z1, i1]
    refine calls_w (fun h => stylusref01_Lower.ok hm h) (fun r1 hm => ?_)
    simp (maxSteps := 4000000) -implicitDefEqProofs (disch := omega) only [push_cast, Nat.reduceAdd, Nat.reduceLeDiff, Nat.reduceMul, Nat.reduceSub, Nat.reduceLT, Nat.reduceEqDiff, Int.reduceAdd, Int.reduceSub, Int.reduceLE, Int.reduceLT, Int.reduceEq, Int.reduceNe, Int.reduceToNat, Int.reduceNeg, reduceIte, reduceCtorEq, eq_true c1, eq_true z1, i1]
    refine H.newL (E := encU8) ([r1] : List Int) rfl rfl (fun b1 h2 H => ?_)
    simp (maxSteps := 4000000) -implicitDefEqProofs (disch := omega) only [push_cast, Nat.reduceAdd, Nat.reduceLeDiff, Nat.reduceMul, Nat.reduceSub, Nat.reduceLT, Nat.reduceEqDiff, Int.reduceAdd, Int.reduceSub, Int.reduceLE, Int.reduceLT, Int.reduceEq, Int.reduceNe, Int.reduceToNat, Int.reduceNeg, reduceIte, reduceCtorEq, eq_true c1, eq_true z1, i1, H.src (e := 5) 1 rfl]
    obtain ⟨w1, hm⟩ := hm
    refine H.appL (E := encU8) 0 ([r1] : List Int) rfl rfl rfl (by decide) (by decide) w1 (fun x2 h3 H => ?_)
    obtain ⟨w2, hm⟩ := hm
    simp (maxSteps := 4000000) -implicitDefEqProofs (disch := omega) only [push_cast, Nat.reduceAdd, Nat.reduceLeDiff, Nat.reduceMul, Nat.reduceSub, Nat.reduceLT, Nat.reduceEqDiff, Int.reduceAdd, Int.reduceSub, Int.reduceLE, Int.reduceLT, Int.reduceEq, Int.reduceNe, Int.reduceToNat, Int.reduceNeg, reduceIte, reduceCtorEq, eq_true c1, eq_true z1, i1, wrap_i64 _ w2]
    replace H := H.perm [0] (by decide)
    exact ⟨⟨(a1 ++ ([r1] : List Int), a2 + 1), x2, h3⟩, hm.2, ⟨hm.1, H⟩, Retell.weak (by simp [Weak, push_cast]) (Hp.sub.refl _)⟩
  · replace hm := ifn hm c1
    simp (maxSteps := 4000000) -implicitDefEqProofs (disch := omega) only [push_cast, Nat.reduceAdd, Nat.reduceLeDiff, Nat.reduceMul, Nat.reduceSub, Nat.reduceLT, Nat.reduceEqDiff, Int.reduceAdd, Int.reduceSub, Int.reduceLE, Int.reduceLT, Int.reduceEq, Int.reduceNe, Int.reduceToNat, Int.reduceNeg, reduceIte, reduceCtorEq, eq_false c1, H.text 0 rfl tab_47 tab_9 tab_5]
    exact retQ_back (.inl rfl) (ofBytes a1) _ rfl (Shift.refl _ _) H.sub hm
/-! stylus/stylusref33.At -/
abbrev n_stylusref33_At : Nat := 11
noncomputable def code_stylusref33_At : Code := match Try.f11.body with | some c => c | none => .skip
def ann_stylusref33_At : Nat → Ann
  | _ => {}
noncomputable def ac_stylusref33_At_c1 : AC :=
  (.seq (.block 1 (.seq (.reg [⟨some 16, (Op.move (Operand.tmp 6)), none, false⟩, ⟨some 17, (Op.move (Operand.tmp 7)), none, false⟩, ⟨some 18, (Op.indexAddr 24 (Operand.tmp 16) (Operand.tmp 17)), none, false⟩, ⟨some 19, (Op.fieldAddr 30 (Operand.tmp 18) 1), none, false⟩, ⟨some 20, (Op.load 9 (Operand.tmp 19)), none, false⟩, ⟨some 21, (Op.call (Call.mk (Callee.value (Operand.func 24)) #[(Operand.tmp 20)] #[9])), none, false⟩, ⟨some 22, (Op.move (Operand.tmp 1)), none, false⟩, ⟨some 23, (Op.call (Call.mk (Callee.value (Operand.func 24)) #[(Operand.tmp 22)] #[9])), none, false⟩, ⟨some 24, (Op.binOp BinOp.eql 9 (Operand.tmp 21) (Operand.tmp 23) 9), none, false⟩]) (.cond (Operand.tmp 24) (.reg [⟨some 25, (Op.move (Operand.tmp 5)), none, false⟩, ⟨some 26, (Op.move (Operand.tmp 6)), none, false⟩, ⟨some 27, (Op.move (Operand.tmp 7)), none, false⟩, ⟨some 28, (Op.indexAddr 24 (Operand.tmp 26) (Operand.tmp 27)), none, false⟩, ⟨some 29, (Op.fieldAddr 30 (Operand.tmp 28) 0), none, false⟩, ⟨some 30, (Op.load 3 (Operand.tmp 29)), none, false⟩, ⟨some 31, (Op.buildSlice 32 1 #[(0, (Operand.tmp 30))]), none, false⟩, ⟨some 32, (Op.call (Call.mk (Callee.builtin Builtin.append) #[(Operand.tmp 25), (Operand.tmp 31)] #[32, 32])), none, false⟩, ⟨some 5, (Op.assign (Operand.tmp 32)), none, false⟩]) .skip))) (.reg [⟨some 14, (Op.move (Operand.tmp 7)), none, false⟩, ⟨some 15, (Op.binOp BinOp.add 3 (Operand.tmp 14) (Operand.const (Value.int IntKind.i64 1)) 3), none, false⟩, ⟨some 7, (Op.assign (Operand.tmp 15)), none, false⟩]))
noncomputable def ac_stylusref33_At : AC :=
  (.seq (.reg [⟨some 4, (Op.assign (Operand.const (Value.slice none 0 0))), none, false⟩]) (.seq (.reg [⟨some 5, (Op.assign (Operand.const (Value.slice none 0 0))), none, false⟩]) (.seq (.reg [⟨some 8, (Op.move (Operand.tmp 0)), none, false⟩, ⟨some 9, (Op.call (Call.mk (Callee.value (Operand.func 7)) #[(Operand.tmp 8)] #[22])), none, false⟩, ⟨some 6, (Op.assign (Operand.tmp 9)), none, false⟩]) (.seq (.seq (.reg [⟨some 7, (Op.assign (Operand.const (Value.int IntKind.i64 0))), none, false⟩]) (.block 0 (.loop (.seq (.seq (.reg [⟨some 10, (Op.move (Operand.tmp 7)), none, false⟩, ⟨some 11, (Op.move (Operand.tmp 6)), none, false⟩, ⟨some 12, (Op.call (Call.mk (Callee.builtin Builtin.len) #[(Operand.tmp 11)] #[24])), none, false⟩, ⟨some 13, (Op.binOp BinOp.lss 3 (Operand.tmp 10) (Operand.tmp 12) 3), none, false⟩]) (.cond (Operand.tmp 13) .skip (.exit 0))) ac_stylusref33_At_c1)))) (.seq (.reg [⟨some 33, (Op.move (Operand.tmp 5)), none, false⟩, ⟨some 4, (Op.assign (Operand.tmp 33)), none, false⟩]) .ret)))))
theorem body_stylusref33_At : Try.f11.body = some code_stylusref33_At := by kernel_rfl
theorem slim_stylusref33_At : slim ann_stylusref33_At code_stylusref33_At = some ac_stylusref33_At := by kernel_rfl
theorem name_stylusref33_At : (Try.f11.name == "runtime.NumGoroutine") = false := by kernel_rfl
theorem enter_stylusref33_At {args : List AV} {h : Hp} {Q : AE → Hp → Prop} (H : awp Try.prog tab ac_stylusref33_At (retQ tab [(ResultVar.tmp 4)] Q) ⟨args ++ List.replicate (34 - args.length) .any, h⟩) : ACalls Try.prog 11 args h Q :=
  acalls_of tab_ok mixed Try.func11 body_stylusref33_At name_stylusref33_At slim_stylusref33_At rfl Try.ntmps11 H
/-- stylus/stylusref33.At -/
def stylusref33_At.w (a0_ : List ApiTok) (a1_ : ByteArray) (Q : (List Int) → Prop) : Prop :=
  stylusref33_Words.w a0_ (fun r1 =>
    wloop (σ := (List Int) × Int) (fun ⟨a1, a2⟩ next1 =>
      if a2 < (r1.length : Int) then
        wcut (α := (List Int)) (fun k1 =>
          (0 ≤ a2) ∧
          ∃ v1 : Stylusref33Word, r1[a2.toNat]? = some v1 ∧
          stylusref01_Low.w v1.Text (fun r2 =>
            stylusref01_Low.w a1_ (fun r3 =>
              if r2 = r3 then
                ((a1.length + ([v1.At] : List Int).length) * 8 ≤ 140737488355328) ∧
                k1 (a1 ++ ([v1.At] : List Int))
              else
                k1 a1))) (fun a3 =>
          (I64 (a2 + 1)) ∧
          next1 (a3, a2 + 1))
      else
        Q a1) (([] : List Int), 0))
theorem stylusref33_At.ok {a0_ : List ApiTok} {a1_ : ByteArray} {Q : (List Int) → Prop} (hm : stylusref33_At.w a0_ a1_ Q) (h0 : Hp) : ACalls Try.prog n_stylusref33_At [(.isl 3 (a0_.map ApiTok.enc)), (astr a1_)] h0 (Back h0 (fun r => (.isl 1 (r.map encInt))) Q) := by
  refine enter_stylusref33_At ?_
  unfold stylusref33_At.w at hm
  have H := AM.Own.nil h0
  simp (maxSteps := 4000000) -implicitDefEqProofs (disch := omega) only [push_cast, Nat.reduceAdd, Nat.reduceLeDiff, Nat.reduceMul, Nat.reduceSub, Nat.reduceLT, Nat.reduceEqDiff, Int.reduceAdd, Int.reduceSub, Int.reduceLE, Int.reduceLT, Int.reduceEq, Int.reduceNe, Int.reduceToNat, Int.reduceNeg, reduceIte, reduceCtorEq, ac_stylusref33_At]
  refine calls_w (fun h => stylusref33_Words.ok hm h) (fun r1 hm => ?_)
  simp (maxSteps := 4000000) -implicitDefEqProofs (disch := omega) only [push_cast, Nat.reduceAdd, Nat.reduceLeDiff, Nat.reduceMul, Nat.reduceSub, Nat.reduceLT, Nat.reduceEqDiff, Int.reduceAdd, Int.reduceSub, Int.reduceLE, Int.reduceLT, Int.reduceEq, Int.reduceNe, Int.reduceToNat, Int.reduceNeg, reduceIte, reduceCtorEq]
  obtain ⟨inv1, mu1, hi1, hs1⟩ := hm
  replace H := H.addNil 1 (some (3, 0))
  replace H := H.perm [0] (by decide)
  refine awp_loop (σ := ((List Int) × Int) × AV × Hp) (fun ⟨⟨a1, a2⟩, x1, h1⟩ => ⟨((((List.replicate 34 AV.any).set 1 (astr a1_)).set 5 x1).set 6 (.isl 2 (r1.map Stylusref33Word.enc))).set 7 (aint a2), h1⟩) (fun ⟨⟨a1, a2⟩, x1, h1⟩ => inv1 (a1, a2) ∧ AM.Own h0 h1 [⟨x1, false, 1, a1.map encInt, some (3, 0)⟩]) (fun ⟨⟨a1, a2⟩, x1, h1⟩ => mu1 (a1, a2)) ⟨(([] : List Int), 0), anil, h0⟩ (Retell.weak (by simp [Weak, push_cast]) (Hp.sub.refl _)) ⟨hi1, H⟩ ?_
  rintro ⟨⟨a1, a2⟩, x1, h1⟩ ⟨hi1, H⟩
  have hm := hs1 _ hi1
  dsimp only at hm H ⊢
  simp (maxSteps := 4000000) -implicitDefEqProofs (disch := omega) only [push_cast, Nat.reduceAdd, Nat.reduceLeDiff, Nat.reduceMul, Nat.reduceSub, Nat.reduceLT, Nat.reduceEqDiff, Int.reduceAdd, Int.reduceSub, Int.reduceLE, Int.reduceLT, Int.reduceEq, Int.reduceNe, Int.reduceToNat, Int.reduceNeg, reduceIte, reduceCtorEq]
  rw [fork_cond]
  refine ⟨fun c1 => ?_, fun c1 => ?_⟩
  · replace hm := ifp hm c1
    simp (maxSteps := 4000000) -implicitDefEqProofs (disch := omega) only [push_cast, Nat.reduceAdd, Nat.reduceLeDiff, Nat.reduceMul, Nat.reduceSub, Nat.reduceLT, Nat.reduceEqDiff, Int.reduceAdd, Int.reduceSub, Int.reduceLE, Int.reduceLT, Int.reduceEq, Int.reduceNe, Int.reduceToNat, Int.reduceNeg, reduceIte, reduceCtorEq, eq_true c1]
    obtain ⟨k1, hm, hk1⟩ := wcut_elim hm
    refine awp_cut (fun s' => ∃ (a3 : List Int) (x2 : AV) (h2 : Hp), Like s'.tm (((((List.replicate 34 none).set 1 (some (astr a1_))).set 5 (some x2)).set 6 (some (.isl 2 (r1.map Stylusref33Word.enc)))).set 7 (some (aint a2))) ∧ s'.h = h2 ∧ AM.Own h0 h2 [⟨x2, false, 1, a3.map encInt, some (3, 0)⟩] ∧ k1 a3) ?_ ?_
    · obtain ⟨z1, hm⟩ := hm
      obtain ⟨v1, i1, hm⟩ := hm
      simp (maxSteps := 4000000) -implicitDefEqProofs (disch := omega) only [push_cast, Nat.reduceAdd, Nat.reduceLeDiff, Nat.reduceMul, Nat.reduceSub, Nat.reduceLT, Nat.reduceEqDiff, Int.reduceAdd, Int.reduceSub, Int.reduceLE, Int.reduceLT, Int.reduceEq, Int.reduceNe, Int.reduceToNat, Int.reduceNeg, reduceIte, reduceCtorEq, eq_true c1, eq_true z1, i1]
      refine calls_w (fun h => stylusref01_Low.ok hm h) (fun r2 hm => ?_)
      simp (maxSteps := 4000000) -implicitDefEqProofs (disch := omega) only [push_cast, Nat.reduceAdd, Nat.reduceLeDiff, Nat.reduceMul, Nat.reduceSub, Nat.reduceLT, Nat.reduceEqDiff, Int.reduceAdd, Int.reduceSub, Int.reduceLE, Int.reduceLT, Int.reduceEq, Int.reduceNe, Int.reduceToNat, Int.reduceNeg, reduceIte, reduceCtorEq, eq_true c1, eq_true z1, i1]
      refine calls_w (fun h => stylusref01_Low.ok hm h) (fun r3 hm => ?_)
      simp (maxSteps := 4000000) -implicitDefEqProofs (disch := omega) only [push_cast, Nat.reduceAdd, Nat.reduceLeDiff, Nat.reduceMul, Nat.reduceSub, Nat.reduceLT, Nat.reduceEqDiff, Int.reduceAdd, Int.reduceSub, Int.reduceLE, Int.reduceLT, Int.reduceEq, Int.reduceNe, Int.reduceToNat, Int.reduceNeg, reduceIte, reduceCtorEq, eq_true c1, eq_true z1, i1]
      rw [fork_cond]
      refine ⟨fun c2 => ?_, fun c2 => ?_⟩
      · replace hm := ifp hm c2
        simp (maxSteps := 4000000) -implicitDefEqProofs (disch := omega) only [push_cast, Nat.reduceAdd, Nat.reduceLeDiff, Nat.reduceMul, Nat.reduceSub, Nat.reduceLT, Nat.reduceEqDiff, Int.reduceAdd, Int.reduceSub, Int.reduceLE, Int.reduceLT, Int.reduceEq, Int.reduceNe, Int.reduceToNat, Int.reduceNeg, reduceIte, reduceCtorEq, eq_true c1, eq_true z1, i1, eq_true c2]
        refine H.newL (E := encInt) ([v1.At] : List Int) rfl rfl (fun b1 h3 H => ?_)
        simp (maxSteps := 4000000) -implicitDefEqProofs (disch := omega) only [push_cast, Nat.reduceAdd, Nat.reduceLeDiff, Nat.reduceMul, Nat.reduceSub, Nat.reduceLT, Nat.reduceEqDiff, Int.reduceAdd, Int.reduceSub, Int.reduceLE, Int.reduceLT, Int.reduceEq, Int.reduceNe, Int.reduceToNat, Int.reduceNeg, reduceIte, reduceCtorEq, eq_true c1, eq_true z1, i1, eq_true c2, H.src (e := 3) 1 rfl]
        obtain ⟨w1, hm⟩ := hm
        refine H.appL (E := encInt) 0 ([v1.At] : List Int) rfl rfl rfl (by decide) (by decide) w1 (fun x3 h4 H => ?_)
        simp (maxSteps := 4000000) -implicitDefEqProofs (disch := omega) only [push_cast, Nat.reduceAdd, Nat.reduceLeDiff, Nat.reduceMul, Nat.reduceSub, Nat.reduceLT, Nat.reduceEqDiff, Int.reduceAdd, Int.reduceSub, Int.reduceLE, Int.reduceLT, Int.reduceEq, Int.reduceNe, Int.reduceToNat, Int.reduceNeg, reduceIte, reduceCtorEq, eq_true c1, eq_true z1, i1, eq_true c2]
        replace H := H.perm [0] (by decide)
        exact ⟨a1 ++ ([v1.At] : List Int), x3, h4, by simp [Like, push_cast], rfl, H, hm⟩
      · replace hm := ifn hm c2
        simp (maxSteps := 4000000) -implicitDefEqProofs (disch := omega) only [push_cast, Nat.reduceAdd, Nat.reduceLeDiff, Nat.reduceMul, Nat.reduceSub, Nat.reduceLT, Nat.reduceEqDiff, Int.reduceAdd, Int.reduceSub, Int.reduceLE, Int.reduceLT, Int.reduceEq, Int.reduceNe, Int.reduceToNat, Int.reduceNeg, reduceIte, reduceCtorEq, eq_true c1, eq_true z1, i1, eq_false c2]
        replace H := H.perm [0] (by decide)
        exact ⟨a1, x1, h1, by simp [Like, push_cast], rfl, H, hm⟩
    · rintro ⟨tm, h2⟩ ⟨a3, x2, _, hL, rfl, H, hm⟩
      dsimp only at hL H
      obtain ⟨D, rfl⟩ := hL.fill 0
      replace hm := hk1 _ hm
      obtain ⟨w2, hm⟩ := hm
      simp (maxSteps := 4000000) -implicitDefEqProofs (disch := omega) only [push_cast, Nat.reduceAdd, Nat.reduceLeDiff, Nat.reduceMul, Nat.reduceSub, Nat.reduceLT, Nat.reduceEqDiff, Int.reduceAdd, Int.reduceSub, Int.reduceLE, Int.reduceLT, Int.reduceEq, Int.reduceNe, Int.reduceToNat, Int.reduceNeg, reduceIte, reduceCtorEq, eq_true c1, wrap_i64 _ w2]
      replace H := H.perm [0] (by decide)
      exact ⟨⟨(a3, a2 + 1), x2, h2⟩, hm.2, ⟨hm.1, H⟩, Retell.weak (by simp [Weak, push_cast]) (Hp.sub.refl _)⟩
  · replace hm := ifn hm c1
    simp (maxSteps := 4000000) -implicitDefEqProofs (disch := omega) only [push_cast, Nat.reduceAdd, Nat.reduceLeDiff, Nat.reduceMul, Nat.reduceSub, Nat.reduceLT, Nat.reduceEqDiff, Int.reduceAdd, Int.reduceSub, Int.reduceLE, Int.reduceLT, Int.reduceEq, Int.reduceNe, Int.reduceToNat, Int.reduceNeg, reduceIte, reduceCtorEq, eq_false c1]
    obtain ⟨h5, s1, H⟩ := H.freeze 0 rfl
    exact retQ_back (.inl rfl) a1 _ rfl s1 H.sub hm
end Go.Proofs.Ytnenodamppageaa
