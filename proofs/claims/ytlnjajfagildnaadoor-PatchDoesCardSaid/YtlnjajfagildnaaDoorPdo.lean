/- patch.Of, book.page, patch.Do: their answers' inner slices stand in blocks of their own (the printed walks, told so). -/
import Derived.Test.YtlnjajfagildnaaDoorPdn
namespace Go.Proofs.YtlnjajfagildnaaDoor
open Go Go.Proofs.YtlnjajfagildnaaDoor.AM
set_option linter.unusedVariables false
set_option linter.unusedSimpArgs false
set_option maxRecDepth 100000
set_option maxHeartbeats 4000000
@[push_cast] def changeN (x : ApiChange) : List AV := [aint x.Page, .nsl 1 (x.Lines.map AM.encStr)]
@[push_cast] def patchN (x : ApiPatch) : List AV := [aint x.Pages, .isl 2 (x.Changes.map changeN)]
@[push_cast] def linesN (l : List ByteArray) : List AV := [.nsl 1 (l.map AM.encStr)]
@[push_cast] theorem cells_nsl (s : Nat) (r : List (List AV)) : AV.cells (.nsl s r) = [.nsl s r] := rfl
@[push_cast] theorem okc_nsl (s : Nat) (r : List (List AV)) : AV.okCells (.nsl s r) = true := rfl
theorem patch_Of.okN {a0_ : List (List ByteArray)} {a1_ : List (List ByteArray)} {Q : ApiPatch → Prop} (hm : patch_Of.w a0_ a1_ Q) (h0 : Hp) : ACalls Tryd.prog n_patch_Of [(.isl 1 (a0_.map (encSl 1 AM.encStr))), (.isl 1 (a1_.map (encSl 1 AM.encStr)))] h0 (fun e h' => ∃ (r : ApiPatch) (x : AV), e = .ret (.agg [aint r.Pages, x]) ∧ AM.Own h0 h' [⟨x, false, 2, r.Changes.map changeN, some (40, 0)⟩] ∧ Q r) := by
  refine enter_patch_Of ?_
  unfold patch_Of.w at hm
  have H := AM.Own.nil h0
  simp (maxSteps := 4000000) -implicitDefEqProofs (disch := omega) only [push_cast, Nat.reduceAdd, Nat.reduceLeDiff, Nat.reduceMul, Nat.reduceSub, Nat.reduceLT, Nat.reduceEqDiff, Int.reduceAdd, Int.reduceSub, Int.reduceLE, Int.reduceLT, Int.reduceEq, Int.reduceNe, Int.reduceToNat, Int.reduceNeg, reduceIte, reduceCtorEq, ac_patch_Of]
  refine H.newR [(aint 0), anil] rfl (fun b1 h1 H => ?_)
  have e0 := H.getP 0 rfl
  simp (maxSteps := 4000000) -implicitDefEqProofs (disch := omega) only [push_cast, Nat.reduceAdd, Nat.reduceLeDiff, Nat.reduceMul, Nat.reduceSub, Nat.reduceLT, Nat.reduceEqDiff, Int.reduceAdd, Int.reduceSub, Int.reduceLE, Int.reduceLT, Int.reduceEq, Int.reduceNe, Int.reduceToNat, Int.reduceNeg, reduceIte, reduceCtorEq, e0]
  refine H.newR [(aint 0), anil] rfl (fun b2 h2 H => ?_)
  have e0 := H.getP 0 rfl
  have e1 := H.getP 1 rfl
  simp (maxSteps := 4000000) -implicitDefEqProofs (disch := omega) only [push_cast, Nat.reduceAdd, Nat.reduceLeDiff, Nat.reduceMul, Nat.reduceSub, Nat.reduceLT, Nat.reduceEqDiff, Int.reduceAdd, Int.reduceSub, Int.reduceLE, Int.reduceLT, Int.reduceEq, Int.reduceNe, Int.reduceToNat, Int.reduceNeg, reduceIte, reduceCtorEq, e0, e1]
  refine H.stP 1 [(aint (a1_.length : Int)), anil] rfl rfl rfl rfl (Nat.le_of_ble_eq_true rfl) rfl (fun h3 H => ?_)
  have e0 := H.getP 0 rfl
  have e1 := H.getP 1 rfl
  simp (maxSteps := 4000000) -implicitDefEqProofs (disch := omega) only [push_cast, Nat.reduceAdd, Nat.reduceLeDiff, Nat.reduceMul, Nat.reduceSub, Nat.reduceLT, Nat.reduceEqDiff, Int.reduceAdd, Int.reduceSub, Int.reduceLE, Int.reduceLT, Int.reduceEq, Int.reduceNe, Int.reduceToNat, Int.reduceNeg, reduceIte, reduceCtorEq, e0, e1]
  obtain ⟨inv1, mu1, hi1, hs1⟩ := hm
  replace H := H.addNil 2 (some (40, 0))
  replace H := H.addNil 2 (some (40, 0))
  replace H := H.perm [0, 1, 2, 3] (by decide)
  refine awp_loop (σ := (Int × (List ApiChange) × Int × (List ApiChange) × Int) × AV × AV × Hp) (fun ⟨⟨a1, a2, a3, a4, a5⟩, x1, x2, h4⟩ => ⟨((((((List.replicate 43 AV.any).set 0 (.isl 1 (a0_.map (encSl 1 AM.encStr)))).set 4 (.optr b1 2 0 0)).set 5 (.optr b2 2 0 0)).set 11 (.isl 1 (a1_.map (encSl 1 AM.encStr)))).set 12 (aint (a1_.length : Int))).set 13 (aint a5), h4⟩) (fun ⟨⟨a1, a2, a3, a4, a5⟩, x1, x2, h4⟩ => inv1 (a1, a2, a3, a4, a5) ∧ AM.Own h0 h4 [⟨(.optr b1 2 0 0), true, 2, [[(aint a1), x1]], some (25, 2)⟩, ⟨(.optr b2 2 0 0), true, 2, [[(aint a3), x2]], some (25, 2)⟩, ⟨x1, false, 2, a2.map changeN, some (40, 0)⟩, ⟨x2, false, 2, a4.map changeN, some (40, 0)⟩]) (fun ⟨⟨a1, a2, a3, a4, a5⟩, x1, x2, h4⟩ => mu1 (a1, a2, a3, a4, a5)) ⟨(0, ([] : List ApiChange), (a1_.length : Int), ([] : List ApiChange), 0), anil, anil, h3⟩ (Retell.weak (by simp [Weak, push_cast]) (Hp.sub.refl _)) ⟨hi1, H⟩ ?_
  rintro ⟨⟨a1, a2, a3, a4, a5⟩, x1, x2, h4⟩ ⟨hi1, H⟩
  have hm := hs1 _ hi1
  dsimp only at hm H ⊢
  have e0 := H.getP 0 rfl
  have e1 := H.getP 1 rfl
  simp (maxSteps := 4000000) -implicitDefEqProofs (disch := omega) only [push_cast, Nat.reduceAdd, Nat.reduceLeDiff, Nat.reduceMul, Nat.reduceSub, Nat.reduceLT, Nat.reduceEqDiff, Int.reduceAdd, Int.reduceSub, Int.reduceLE, Int.reduceLT, Int.reduceEq, Int.reduceNe, Int.reduceToNat, Int.reduceNeg, reduceIte, reduceCtorEq, e0, e1]
  rw [fork_cond]
  refine ⟨fun c1 => ?_, fun c1 => ?_⟩
  · replace hm := ifp hm c1
    obtain ⟨z1, hm⟩ := hm
    obtain ⟨v1, i1, hm⟩ := hm
    have e0 := H.getP 0 rfl
    have e1 := H.getP 1 rfl
    simp (maxSteps := 4000000) -implicitDefEqProofs (disch := omega) only [push_cast, Nat.reduceAdd, Nat.reduceLeDiff, Nat.reduceMul, Nat.reduceSub, Nat.reduceLT, Nat.reduceEqDiff, Int.reduceAdd, Int.reduceSub, Int.reduceLE, Int.reduceLT, Int.reduceEq, Int.reduceNe, Int.reduceToNat, Int.reduceNeg, reduceIte, reduceCtorEq, eq_true c1, eq_true z1, i1, e0, e1]
    obtain ⟨k1, hm, hk1⟩ := wcut_elim hm
    refine awp_cut (fun s' => ∃ (a6 : Bool) (h5 : Hp), Like s'.tm ((((((((((List.replicate 43 none).set 0 (some (.isl 1 (a0_.map (encSl 1 AM.encStr))))).set 4 (some (.optr b1 2 0 0))).set 5 (some (.optr b2 2 0 0))).set 6 (some (aint a5))).set 7 (some (.isl 1 (v1.map AM.encStr)))).set 11 (some (.isl 1 (a1_.map (encSl 1 AM.encStr))))).set 12 (some (aint (a1_.length : Int)))).set 13 (some (aint a5))).set 30 (some (abool a6))) ∧ s'.h = h5 ∧ AM.Own h0 h5 [⟨(.optr b1 2 0 0), true, 2, [[(aint a1), x1]], some (25, 2)⟩, ⟨(.optr b2 2 0 0), true, 2, [[(aint a3), x2]], some (25, 2)⟩, ⟨x1, false, 2, a2.map changeN, some (40, 0)⟩, ⟨x2, false, 2, a4.map changeN, some (40, 0)⟩] ∧ k1 a6) ?_ ?_
    · have e0 := H.getP 0 rfl
      have e1 := H.getP 1 rfl
      simp (maxSteps := 4000000) -implicitDefEqProofs (disch := omega) only [push_cast, Nat.reduceAdd, Nat.reduceLeDiff, Nat.reduceMul, Nat.reduceSub, Nat.reduceLT, Nat.reduceEqDiff, Int.reduceAdd, Int.reduceSub, Int.reduceLE, Int.reduceLT, Int.reduceEq, Int.reduceNe, Int.reduceToNat, Int.reduceNeg, reduceIte, reduceCtorEq, eq_true c1, eq_true z1, i1, e0, e1]
      rw [gfork_cond']
      refine ⟨fun c2 => ?_, fun c2 => ?_⟩
      · replace hm := ifp hm c2
        have e0 := H.getP 0 rfl
        have e1 := H.getP 1 rfl
        simp (maxSteps := 4000000) -implicitDefEqProofs (disch := omega) only [push_cast, Nat.reduceAdd, Nat.reduceLeDiff, Nat.reduceMul, Nat.reduceSub, Nat.reduceLT, Nat.reduceEqDiff, Int.reduceAdd, Int.reduceSub, Int.reduceLE, Int.reduceLT, Int.reduceEq, Int.reduceNe, Int.reduceToNat, Int.reduceNeg, reduceIte, reduceCtorEq, eq_true c1, eq_true z1, i1, eq_true c2, e0, e1]
        replace H := H.perm [0, 1, 2, 3] (by decide)
        exact ⟨true, h4, by simp [Like, push_cast], rfl, H, hm⟩
      · replace hm := ifn hm c2
        obtain ⟨v2, i2, hm⟩ := hm
        have e0 := H.getP 0 rfl
        have e1 := H.getP 1 rfl
        simp (maxSteps := 4000000) -implicitDefEqProofs (disch := omega) only [push_cast, Nat.reduceAdd, Nat.reduceLeDiff, Nat.reduceMul, Nat.reduceSub, Nat.reduceLT, Nat.reduceEqDiff, Int.reduceAdd, Int.reduceSub, Int.reduceLE, Int.reduceLT, Int.reduceEq, Int.reduceNe, Int.reduceToNat, Int.reduceNeg, reduceIte, reduceCtorEq, eq_true c1, eq_true z1, i1, eq_false c2, i2, e0, e1]
        refine calls_w (fun h => slices_Equal_string_string.ok hm h) (fun r1 hm => ?_)
        have e0 := H.getP 0 rfl
        have e1 := H.getP 1 rfl
        simp (maxSteps := 4000000) -implicitDefEqProofs (disch := omega) only [push_cast, Nat.reduceAdd, Nat.reduceLeDiff, Nat.reduceMul, Nat.reduceSub, Nat.reduceLT, Nat.reduceEqDiff, Int.reduceAdd, Int.reduceSub, Int.reduceLE, Int.reduceLT, Int.reduceEq, Int.reduceNe, Int.reduceToNat, Int.reduceNeg, reduceIte, reduceCtorEq, eq_true c1, eq_true z1, i1, eq_false c2, i2, e0, e1]
        replace H := H.perm [0, 1, 2, 3] (by decide)
        exact ⟨!r1, h4, by simp [Like, push_cast], rfl, H, hm⟩
    · rintro ⟨tm, h5⟩ ⟨a6, _, hL, rfl, H, hm⟩
      dsimp only at hL H
      obtain ⟨D, rfl⟩ := hL.fill 0
      replace hm := hk1 _ hm
      have e0 := H.getP 0 rfl
      have e1 := H.getP 1 rfl
      simp (maxSteps := 4000000) -implicitDefEqProofs (disch := omega) only [push_cast, Nat.reduceAdd, Nat.reduceLeDiff, Nat.reduceMul, Nat.reduceSub, Nat.reduceLT, Nat.reduceEqDiff, Int.reduceAdd, Int.reduceSub, Int.reduceLE, Int.reduceLT, Int.reduceEq, Int.reduceNe, Int.reduceToNat, Int.reduceNeg, reduceIte, reduceCtorEq, eq_true c1, eq_true z1, i1, e0, e1]
      rw [fork_bool]
      refine ⟨fun c3 => ?_, fun c3 => ?_⟩
      · replace hm := ifp hm c3
        obtain ⟨w1, hm⟩ := hm
        have e0 := H.getP 0 rfl
        have e1 := H.getP 1 rfl
        simp (maxSteps := 4000000) -implicitDefEqProofs (disch := omega) only [push_cast, Nat.reduceAdd, Nat.reduceLeDiff, Nat.reduceMul, Nat.reduceSub, Nat.reduceLT, Nat.reduceEqDiff, Int.reduceAdd, Int.reduceSub, Int.reduceLE, Int.reduceLT, Int.reduceEq, Int.reduceNe, Int.reduceToNat, Int.reduceNeg, reduceIte, reduceCtorEq, eq_true c1, eq_true z1, i1, c3, wrap_i64 _ w1, e0, e1]
        obtain ⟨r2, g1, hm⟩ := hm
        refine pures_of _ (pure_of_back (fun h => slices_Clone_string_string.okN g1 h)) ?_
        have e0 := H.getP 0 rfl
        have e1 := H.getP 1 rfl
        simp (maxSteps := 4000000) -implicitDefEqProofs (disch := omega) only [push_cast, Nat.reduceAdd, Nat.reduceLeDiff, Nat.reduceMul, Nat.reduceSub, Nat.reduceLT, Nat.reduceEqDiff, Int.reduceAdd, Int.reduceSub, Int.reduceLE, Int.reduceLT, Int.reduceEq, Int.reduceNe, Int.reduceToNat, Int.reduceNeg, reduceIte, reduceCtorEq, eq_true c1, eq_true z1, i1, c3, wrap_i64 _ w1, e0, e1]
        refine H.newL (E := changeN) ([(⟨a5 + 1, r2⟩ : ApiChange)] : List ApiChange) rfl rfl (fun b3 h6 H => ?_)
        have e0 := H.getP 0 rfl
        have e1 := H.getP 1 rfl
        simp (maxSteps := 4000000) -implicitDefEqProofs (disch := omega) only [push_cast, Nat.reduceAdd, Nat.reduceLeDiff, Nat.reduceMul, Nat.reduceSub, Nat.reduceLT, Nat.reduceEqDiff, Int.reduceAdd, Int.reduceSub, Int.reduceLE, Int.reduceLT, Int.reduceEq, Int.reduceNe, Int.reduceToNat, Int.reduceNeg, reduceIte, reduceCtorEq, eq_true c1, eq_true z1, i1, c3, wrap_i64 _ w1, H.src (e := 40) 4 rfl, e0, e1]
        obtain ⟨w2, hm⟩ := hm
        refine H.appL (E := changeN) 3 ([(⟨a5 + 1, r2⟩ : ApiChange)] : List ApiChange) rfl rfl rfl (by decide) (by decide) w2 (fun x3 h7 H => ?_)
        have e0 := H.getP 0 rfl
        have e1 := H.getP 1 rfl
        simp (maxSteps := 4000000) -implicitDefEqProofs (disch := omega) only [push_cast, Nat.reduceAdd, Nat.reduceLeDiff, Nat.reduceMul, Nat.reduceSub, Nat.reduceLT, Nat.reduceEqDiff, Int.reduceAdd, Int.reduceSub, Int.reduceLE, Int.reduceLT, Int.reduceEq, Int.reduceNe, Int.reduceToNat, Int.reduceNeg, reduceIte, reduceCtorEq, eq_true c1, eq_true z1, i1, c3, wrap_i64 _ w1, e0, e1]
        refine H.stP 1 [(aint a3), x3] rfl (H.ok 3 rfl).1 (H.ok 3 rfl).2 rfl (Nat.le_of_ble_eq_true rfl) rfl (fun h8 H => ?_)
        obtain ⟨w3, hm⟩ := hm
        have e0 := H.getP 0 rfl
        have e1 := H.getP 1 rfl
        simp (maxSteps := 4000000) -implicitDefEqProofs (disch := omega) only [push_cast, Nat.reduceAdd, Nat.reduceLeDiff, Nat.reduceMul, Nat.reduceSub, Nat.reduceLT, Nat.reduceEqDiff, Int.reduceAdd, Int.reduceSub, Int.reduceLE, Int.reduceLT, Int.reduceEq, Int.reduceNe, Int.reduceToNat, Int.reduceNeg, reduceIte, reduceCtorEq, eq_true c1, eq_true z1, i1, c3, wrap_i64 _ w1, wrap_i64 _ w3, e0, e1]
        replace H := H.perm [0, 1, 2, 3] (by decide)
        exact ⟨⟨(a1, a2, a3, a4 ++ ([(⟨a5 + 1, r2⟩ : ApiChange)] : List ApiChange), a5 + 1), x1, x3, h8⟩, hm.2, ⟨hm.1, H⟩, Retell.weak (by simp [Weak, push_cast]) (Hp.sub.refl _)⟩
      · replace hm := ifn hm (by rw [c3]; exact Bool.false_ne_true)
        obtain ⟨w4, hm⟩ := hm
        have e0 := H.getP 0 rfl
        have e1 := H.getP 1 rfl
        simp (maxSteps := 4000000) -implicitDefEqProofs (disch := omega) only [push_cast, Nat.reduceAdd, Nat.reduceLeDiff, Nat.reduceMul, Nat.reduceSub, Nat.reduceLT, Nat.reduceEqDiff, Int.reduceAdd, Int.reduceSub, Int.reduceLE, Int.reduceLT, Int.reduceEq, Int.reduceNe, Int.reduceToNat, Int.reduceNeg, reduceIte, reduceCtorEq, eq_true c1, eq_true z1, i1, c3, wrap_i64 _ w4, e0, e1]
        replace H := H.perm [0, 1, 2, 3] (by decide)
        exact ⟨⟨(a1, a2, a3, a4, a5 + 1), x1, x2, h5⟩, hm.2, ⟨hm.1, H⟩, Retell.weak (by simp [Weak, push_cast]) (Hp.sub.refl _)⟩
  · replace hm := ifn hm c1
    have e0 := H.getP 0 rfl
    have e1 := H.getP 1 rfl
    simp (maxSteps := 4000000) -implicitDefEqProofs (disch := omega) only [push_cast, Nat.reduceAdd, Nat.reduceLeDiff, Nat.reduceMul, Nat.reduceSub, Nat.reduceLT, Nat.reduceEqDiff, Int.reduceAdd, Int.reduceSub, Int.reduceLE, Int.reduceLT, Int.reduceEq, Int.reduceNe, Int.reduceToNat, Int.reduceNeg, reduceIte, reduceCtorEq, eq_false c1, e0, e1]
    refine H.stP 0 [(aint a3), x2] rfl rfl rfl rfl (Nat.le_of_ble_eq_true rfl) rfl (fun h9 H => ?_)
    have e0 := H.getP 0 rfl
    have e1 := H.getP 1 rfl
    simp (maxSteps := 4000000) -implicitDefEqProofs (disch := omega) only [push_cast, Nat.reduceAdd, Nat.reduceLeDiff, Nat.reduceMul, Nat.reduceSub, Nat.reduceLT, Nat.reduceEqDiff, Int.reduceAdd, Int.reduceSub, Int.reduceLE, Int.reduceLT, Int.reduceEq, Int.reduceNe, Int.reduceToNat, Int.reduceNeg, reduceIte, reduceCtorEq, eq_false c1, e0, e1]
    have e0 := H.getP 0 rfl
    have e1 := H.getP 1 rfl
    exact retQ_o (.inl rfl) (x := .agg [(aint a3), x2]) (by simp [aResults, resAll, resOne, push_cast, e0, e1]) (Shift.refl _ _) ⟨(⟨a3, a4⟩ : ApiPatch), x2, rfl, H.perm [3] (by decide), hm⟩
theorem patch_book_page_i0.okN {a0_ : List (List ByteArray)} {c0_0_ : ApiPatch} {c0_1_ : List (List ByteArray)} {Q : Bool → ApiPatch → (List (List ByteArray)) → Prop} (hm : patch_book_page_i0.w a0_ c0_0_ c0_1_ Q) {h0 h : Hp} {b0_ : Nat} {x0_1_ : AV} (H : AM.Own h0 h [⟨x0_1_, false, 1, c0_1_.map linesN, some (38, 0)⟩, ⟨(.optr b0_ 3 0 0), true, 3, [((ApiPatch.enc c0_0_) ++ [x0_1_])], some (47, 3)⟩]) : ACalls Tryd.prog n_patch_book_page [(.optr b0_ 3 0 0), (.isl 1 (a0_.map (encSl 1 AM.encStr)))] h (fun e h' => ∃ (r : Bool) (c0_0' : ApiPatch) (c0_1' : List (List ByteArray)) (x0_1_' : AV), e = .ret ((fun r => (abool r)) r) ∧ AM.Own h0 h' [⟨x0_1_', false, 1, c0_1'.map linesN, some (38, 0)⟩, ⟨(.optr b0_ 3 0 0), true, 3, [((ApiPatch.enc c0_0') ++ [x0_1_'])], some (47, 3)⟩] ∧ Q r c0_0' c0_1') := by
  refine enter_patch_book_page ?_
  unfold patch_book_page_i0.w at hm
  have e1 := H.getP 1 rfl
  simp (maxSteps := 4000000) -implicitDefEqProofs (disch := omega) only [push_cast, Nat.reduceAdd, Nat.reduceLeDiff, Nat.reduceMul, Nat.reduceSub, Nat.reduceLT, Nat.reduceEqDiff, Int.reduceAdd, Int.reduceSub, Int.reduceLE, Int.reduceLT, Int.reduceEq, Int.reduceNe, Int.reduceToNat, Int.reduceNeg, reduceIte, reduceCtorEq, ac_patch_book_page, H.lenE 0 rfl tab_22, e1]
  obtain ⟨k1, hm, hk1⟩ := wcut_elim hm
  refine awp_cut (fun s' => ∃ (a1 : Bool) (h1 : Hp), Like s'.tm (((((List.replicate 77 none).set 0 (some (.optr b0_ 3 0 0))).set 1 (some (.isl 1 (a0_.map (encSl 1 AM.encStr))))).set 5 (some (aint (c0_1_.length : Int)))).set 30 (some (abool a1))) ∧ s'.h = h1 ∧ AM.Own h0 h1 [⟨x0_1_, false, 1, c0_1_.map linesN, some (38, 0)⟩, ⟨(.optr b0_ 3 0 0), true, 3, [((ApiPatch.enc c0_0_) ++ [x0_1_])], some (47, 3)⟩] ∧ k1 a1) ?_ ?_
  · have e1 := H.getP 1 rfl
    simp (maxSteps := 4000000) -implicitDefEqProofs (disch := omega) only [push_cast, Nat.reduceAdd, Nat.reduceLeDiff, Nat.reduceMul, Nat.reduceSub, Nat.reduceLT, Nat.reduceEqDiff, Int.reduceAdd, Int.reduceSub, Int.reduceLE, Int.reduceLT, Int.reduceEq, Int.reduceNe, Int.reduceToNat, Int.reduceNeg, reduceIte, reduceCtorEq, e1]
    rw [gfork_cond]
    refine ⟨fun c1 => ?_, fun c1 => ?_⟩
    · replace hm := ifp hm c1
      obtain ⟨v1, i1, hm⟩ := hm
      obtain ⟨w1, hm⟩ := hm
      have e1 := H.getP 1 rfl
      simp (maxSteps := 4000000) -implicitDefEqProofs (disch := omega) only [push_cast, Nat.reduceAdd, Nat.reduceLeDiff, Nat.reduceMul, Nat.reduceSub, Nat.reduceLT, Nat.reduceEqDiff, Int.reduceAdd, Int.reduceSub, Int.reduceLE, Int.reduceLT, Int.reduceEq, Int.reduceNe, Int.reduceToNat, Int.reduceNeg, reduceIte, reduceCtorEq, eq_true c1, i1, wrap_i64 _ w1, e1]
      replace H := H.perm [0, 1] (by decide)
      exact ⟨decide (v1.Page = (c0_1_.length : Int) + 1), h, by simp [Like, push_cast], rfl, H, hm⟩
    · replace hm := ifn hm c1
      have e1 := H.getP 1 rfl
      simp (maxSteps := 4000000) -implicitDefEqProofs (disch := omega) only [push_cast, Nat.reduceAdd, Nat.reduceLeDiff, Nat.reduceMul, Nat.reduceSub, Nat.reduceLT, Nat.reduceEqDiff, Int.reduceAdd, Int.reduceSub, Int.reduceLE, Int.reduceLT, Int.reduceEq, Int.reduceNe, Int.reduceToNat, Int.reduceNeg, reduceIte, reduceCtorEq, eq_false c1, e1]
      replace H := H.perm [0, 1] (by decide)
      exact ⟨false, h, by simp [Like, push_cast], rfl, H, hm⟩
  · rintro ⟨tm, h1⟩ ⟨a1, _, hL, rfl, H, hm⟩
    dsimp only at hL H
    obtain ⟨D, rfl⟩ := hL.fill 0
    replace hm := hk1 _ hm
    have e1 := H.getP 1 rfl
    simp (maxSteps := 4000000) -implicitDefEqProofs (disch := omega) only [push_cast, Nat.reduceAdd, Nat.reduceLeDiff, Nat.reduceMul, Nat.reduceSub, Nat.reduceLT, Nat.reduceEqDiff, Int.reduceAdd, Int.reduceSub, Int.reduceLE, Int.reduceLT, Int.reduceEq, Int.reduceNe, Int.reduceToNat, Int.reduceNeg, reduceIte, reduceCtorEq, e1]
    rw [fork_bool]
    refine ⟨fun c2 => ?_, fun c2 => ?_⟩
    · replace hm := ifp hm c2
      obtain ⟨v2, i2, hm⟩ := hm
      have e1 := H.getP 1 rfl
      simp (maxSteps := 4000000) -implicitDefEqProofs (disch := omega) only [push_cast, Nat.reduceAdd, Nat.reduceLeDiff, Nat.reduceMul, Nat.reduceSub, Nat.reduceLT, Nat.reduceEqDiff, Int.reduceAdd, Int.reduceSub, Int.reduceLE, Int.reduceLT, Int.reduceEq, Int.reduceNe, Int.reduceToNat, Int.reduceNeg, reduceIte, reduceCtorEq, c2, i2, e1]
      obtain ⟨r1, g1, hm⟩ := hm
      refine pures_of _ (pure_of_back (fun h => slices_Clone_string_string.okN g1 h)) ?_
      have e1 := H.getP 1 rfl
      simp (maxSteps := 4000000) -implicitDefEqProofs (disch := omega) only [push_cast, Nat.reduceAdd, Nat.reduceLeDiff, Nat.reduceMul, Nat.reduceSub, Nat.reduceLT, Nat.reduceEqDiff, Int.reduceAdd, Int.reduceSub, Int.reduceLE, Int.reduceLT, Int.reduceEq, Int.reduceNe, Int.reduceToNat, Int.reduceNeg, reduceIte, reduceCtorEq, c2, i2, e1]
      refine H.newL (E := linesN) ([r1] : List (List ByteArray)) rfl rfl (fun b1 h2 H => ?_)
      have e1 := H.getP 1 rfl
      simp (maxSteps := 4000000) -implicitDefEqProofs (disch := omega) only [push_cast, Nat.reduceAdd, Nat.reduceLeDiff, Nat.reduceMul, Nat.reduceSub, Nat.reduceLT, Nat.reduceEqDiff, Int.reduceAdd, Int.reduceSub, Int.reduceLE, Int.reduceLT, Int.reduceEq, Int.reduceNe, Int.reduceToNat, Int.reduceNeg, reduceIte, reduceCtorEq, c2, i2, H.src (e := 38) 2 rfl, e1]
      obtain ⟨w2, hm⟩ := hm
      refine H.appL (E := linesN) 0 ([r1] : List (List ByteArray)) rfl rfl rfl (by decide) (by decide) w2 (fun x1 h3 H => ?_)
      have e1 := H.getP 1 rfl
      simp (maxSteps := 4000000) -implicitDefEqProofs (disch := omega) only [push_cast, Nat.reduceAdd, Nat.reduceLeDiff, Nat.reduceMul, Nat.reduceSub, Nat.reduceLT, Nat.reduceEqDiff, Int.reduceAdd, Int.reduceSub, Int.reduceLE, Int.reduceLT, Int.reduceEq, Int.reduceNe, Int.reduceToNat, Int.reduceNeg, reduceIte, reduceCtorEq, c2, i2, e1]
      refine H.stP 1 ((ApiPatch.enc c0_0_) ++ [x1]) rfl (H.ok 0 rfl).1 (H.ok 0 rfl).2 rfl (Nat.le_of_ble_eq_true rfl) rfl (fun h4 H => ?_)
      obtain ⟨w3, hm⟩ := hm
      have e1 := H.getP 1 rfl
      simp (maxSteps := 4000000) -implicitDefEqProofs (disch := omega) only [push_cast, Nat.reduceAdd, Nat.reduceLeDiff, Nat.reduceMul, Nat.reduceSub, Nat.reduceLT, Nat.reduceEqDiff, Int.reduceAdd, Int.reduceSub, Int.reduceLE, Int.reduceLT, Int.reduceEq, Int.reduceNe, Int.reduceToNat, Int.reduceNeg, reduceIte, reduceCtorEq, c2, i2, eq_true w3, e1]
      refine H.stP 1 [(aint c0_0_.Pages), (.isl 2 ((c0_0_.Changes.drop 1).map ApiChange.enc)), x1] rfl rfl rfl rfl (Nat.le_of_ble_eq_true rfl) rfl (fun h5 H => ?_)
      have e1 := H.getP 1 rfl
      simp (maxSteps := 4000000) -implicitDefEqProofs (disch := omega) only [push_cast, Nat.reduceAdd, Nat.reduceLeDiff, Nat.reduceMul, Nat.reduceSub, Nat.reduceLT, Nat.reduceEqDiff, Int.reduceAdd, Int.reduceSub, Int.reduceLE, Int.reduceLT, Int.reduceEq, Int.reduceNe, Int.reduceToNat, Int.reduceNeg, reduceIte, reduceCtorEq, c2, i2, eq_true w3, e1]
      have e1 := H.getP 1 rfl
      replace H := H.perm [0, 1] (by decide)
      exact retQ_o (.inl rfl) (x := (abool true)) rfl (Shift.refl _ _) ⟨true, (⟨c0_0_.Pages, c0_0_.Changes.drop 1⟩ : ApiPatch), c0_1_ ++ ([r1] : List (List ByteArray)), x1, rfl, H, hm⟩
    · replace hm := ifn hm (by rw [c2]; exact Bool.false_ne_true)
      have e1 := H.getP 1 rfl
      simp (maxSteps := 4000000) -implicitDefEqProofs (disch := omega) only [push_cast, Nat.reduceAdd, Nat.reduceLeDiff, Nat.reduceMul, Nat.reduceSub, Nat.reduceLT, Nat.reduceEqDiff, Int.reduceAdd, Int.reduceSub, Int.reduceLE, Int.reduceLT, Int.reduceEq, Int.reduceNe, Int.reduceToNat, Int.reduceNeg, reduceIte, reduceCtorEq, c2, e1]
      rw [fork_cond]
      refine ⟨fun c3 => ?_, fun c3 => ?_⟩
      · replace hm := ifp hm c3
        have e1 := H.getP 1 rfl
        simp (maxSteps := 4000000) -implicitDefEqProofs (disch := omega) only [push_cast, Nat.reduceAdd, Nat.reduceLeDiff, Nat.reduceMul, Nat.reduceSub, Nat.reduceLT, Nat.reduceEqDiff, Int.reduceAdd, Int.reduceSub, Int.reduceLE, Int.reduceLT, Int.reduceEq, Int.reduceNe, Int.reduceToNat, Int.reduceNeg, reduceIte, reduceCtorEq, c2, eq_true c3, e1]
        have e1 := H.getP 1 rfl
        replace H := H.perm [0, 1] (by decide)
        exact retQ_o (.inl rfl) (x := (abool false)) rfl (Shift.refl _ _) ⟨false, c0_0_, c0_1_, x0_1_, rfl, H, hm⟩
      · replace hm := ifn hm c3
        obtain ⟨v3, i3, hm⟩ := hm
        have e1 := H.getP 1 rfl
        simp (maxSteps := 4000000) -implicitDefEqProofs (disch := omega) only [push_cast, Nat.reduceAdd, Nat.reduceLeDiff, Nat.reduceMul, Nat.reduceSub, Nat.reduceLT, Nat.reduceEqDiff, Int.reduceAdd, Int.reduceSub, Int.reduceLE, Int.reduceLT, Int.reduceEq, Int.reduceNe, Int.reduceToNat, Int.reduceNeg, reduceIte, reduceCtorEq, c2, eq_false c3, i3, e1]
        obtain ⟨r2, g2, hm⟩ := hm
        refine pures_of _ (pure_of_back (fun h => slices_Clone_string_string.okN g2 h)) ?_
        have e1 := H.getP 1 rfl
        simp (maxSteps := 4000000) -implicitDefEqProofs (disch := omega) only [push_cast, Nat.reduceAdd, Nat.reduceLeDiff, Nat.reduceMul, Nat.reduceSub, Nat.reduceLT, Nat.reduceEqDiff, Int.reduceAdd, Int.reduceSub, Int.reduceLE, Int.reduceLT, Int.reduceEq, Int.reduceNe, Int.reduceToNat, Int.reduceNeg, reduceIte, reduceCtorEq, c2, eq_false c3, i3, e1]
        refine H.newL (E := linesN) ([r2] : List (List ByteArray)) rfl rfl (fun b2 h6 H => ?_)
        have e1 := H.getP 1 rfl
        simp (maxSteps := 4000000) -implicitDefEqProofs (disch := omega) only [push_cast, Nat.reduceAdd, Nat.reduceLeDiff, Nat.reduceMul, Nat.reduceSub, Nat.reduceLT, Nat.reduceEqDiff, Int.reduceAdd, Int.reduceSub, Int.reduceLE, Int.reduceLT, Int.reduceEq, Int.reduceNe, Int.reduceToNat, Int.reduceNeg, reduceIte, reduceCtorEq, c2, eq_false c3, i3, H.src (e := 38) 2 rfl, e1]
        obtain ⟨w4, hm⟩ := hm
        refine H.appL (E := linesN) 0 ([r2] : List (List ByteArray)) rfl rfl rfl (by decide) (by decide) w4 (fun x2 h7 H => ?_)
        have e1 := H.getP 1 rfl
        simp (maxSteps := 4000000) -implicitDefEqProofs (disch := omega) only [push_cast, Nat.reduceAdd, Nat.reduceLeDiff, Nat.reduceMul, Nat.reduceSub, Nat.reduceLT, Nat.reduceEqDiff, Int.reduceAdd, Int.reduceSub, Int.reduceLE, Int.reduceLT, Int.reduceEq, Int.reduceNe, Int.reduceToNat, Int.reduceNeg, reduceIte, reduceCtorEq, c2, eq_false c3, i3, e1]
        refine H.stP 1 ((ApiPatch.enc c0_0_) ++ [x2]) rfl (H.ok 0 rfl).1 (H.ok 0 rfl).2 rfl (Nat.le_of_ble_eq_true rfl) rfl (fun h8 H => ?_)
        have e1 := H.getP 1 rfl
        simp (maxSteps := 4000000) -implicitDefEqProofs (disch := omega) only [push_cast, Nat.reduceAdd, Nat.reduceLeDiff, Nat.reduceMul, Nat.reduceSub, Nat.reduceLT, Nat.reduceEqDiff, Int.reduceAdd, Int.reduceSub, Int.reduceLE, Int.reduceLT, Int.reduceEq, Int.reduceNe, Int.reduceToNat, Int.reduceNeg, reduceIte, reduceCtorEq, c2, eq_false c3, i3, e1]
        have e1 := H.getP 1 rfl
        replace H := H.perm [0, 1] (by decide)
        exact retQ_o (.inl rfl) (x := (abool true)) rfl (Shift.refl _ _) ⟨true, c0_0_, c0_1_ ++ ([r2] : List (List ByteArray)), x2, rfl, H, hm⟩
theorem patch_Do.okN {a0_ : List (List ByteArray)} {a1_ : ApiPatch} {Q : ((List (List ByteArray)) × Int) → Prop} (hm : patch_Do.w a0_ a1_ Q) (h0 : Hp) : ACalls Tryd.prog n_patch_Do [(.isl 1 (a0_.map (encSl 1 AM.encStr))), (.agg (ApiPatch.enc a1_))] h0 (fun e h' => ∃ (r : List (List ByteArray) × Int) (x : AV), e = .ret (.tup [x, aint r.2]) ∧ AM.Own h0 h' [⟨x, false, 1, r.1.map linesN, some (38, 0)⟩] ∧ Q r) := by
  refine enter_patch_Do ?_
  unfold patch_Do.w at hm
  have H := AM.Own.nil h0
  simp (maxSteps := 4000000) -implicitDefEqProofs (disch := omega) only [push_cast, Nat.reduceAdd, Nat.reduceLeDiff, Nat.reduceMul, Nat.reduceSub, Nat.reduceLT, Nat.reduceEqDiff, Int.reduceAdd, Int.reduceSub, Int.reduceLE, Int.reduceLT, Int.reduceEq, Int.reduceNe, Int.reduceToNat, Int.reduceNeg, reduceIte, reduceCtorEq, ac_patch_Do]
  refine H.newR (ApiPatch.enc a1_) rfl (fun b1 h1 H => ?_)
  have e0 := H.getP 0 rfl
  simp (maxSteps := 4000000) -implicitDefEqProofs (disch := omega) only [push_cast, Nat.reduceAdd, Nat.reduceLeDiff, Nat.reduceMul, Nat.reduceSub, Nat.reduceLT, Nat.reduceEqDiff, Int.reduceAdd, Int.reduceSub, Int.reduceLE, Int.reduceLT, Int.reduceEq, Int.reduceNe, Int.reduceToNat, Int.reduceNeg, reduceIte, reduceCtorEq, e0]
  rw [gfork_cond']
  refine ⟨fun c1 => ?_, fun c1 => ?_⟩
  · replace hm := ifp hm c1
    have e0 := H.getP 0 rfl
    simp (maxSteps := 4000000) -implicitDefEqProofs (disch := omega) only [push_cast, Nat.reduceAdd, Nat.reduceLeDiff, Nat.reduceMul, Nat.reduceSub, Nat.reduceLT, Nat.reduceEqDiff, Int.reduceAdd, Int.reduceSub, Int.reduceLE, Int.reduceLT, Int.reduceEq, Int.reduceNe, Int.reduceToNat, Int.reduceNeg, reduceIte, reduceCtorEq, eq_true c1, e0]
    exact retQ_o (.inl rfl) (x := .tup [anil, aint 1]) rfl (Shift.refl _ _) ⟨(([] : List (List ByteArray)), 1), anil, rfl, (H.take 0).addNil 1 (some (38, 0)), hm⟩
  · replace hm := ifn hm c1
    obtain ⟨w1, hm⟩ := hm
    have e0 := H.getP 0 rfl
    simp (maxSteps := 4000000) -implicitDefEqProofs (disch := omega) only [push_cast, Nat.reduceAdd, Nat.reduceLeDiff, Nat.reduceMul, Nat.reduceSub, Nat.reduceLT, Nat.reduceEqDiff, Int.reduceAdd, Int.reduceSub, Int.reduceLE, Int.reduceLT, Int.reduceEq, Int.reduceNe, Int.reduceToNat, Int.reduceNeg, reduceIte, reduceCtorEq, eq_false c1, wrap_i64 _ w1, e0]
    rw [fork_cond]
    refine ⟨fun c2 => ?_, fun c2 => ?_⟩
    · replace hm := ifp hm c2
      have e0 := H.getP 0 rfl
      simp (maxSteps := 4000000) -implicitDefEqProofs (disch := omega) only [push_cast, Nat.reduceAdd, Nat.reduceLeDiff, Nat.reduceMul, Nat.reduceSub, Nat.reduceLT, Nat.reduceEqDiff, Int.reduceAdd, Int.reduceSub, Int.reduceLE, Int.reduceLT, Int.reduceEq, Int.reduceNe, Int.reduceToNat, Int.reduceNeg, reduceIte, reduceCtorEq, eq_false c1, wrap_i64 _ w1, eq_true c2, e0]
      exact retQ_o (.inl rfl) (x := .tup [anil, aint 1]) rfl (Shift.refl _ _) ⟨(([] : List (List ByteArray)), 1), anil, rfl, (H.take 0).addNil 1 (some (38, 0)), hm⟩
    · replace hm := ifn hm c2
      have e0 := H.getP 0 rfl
      simp (maxSteps := 4000000) -implicitDefEqProofs (disch := omega) only [push_cast, Nat.reduceAdd, Nat.reduceLeDiff, Nat.reduceMul, Nat.reduceSub, Nat.reduceLT, Nat.reduceEqDiff, Int.reduceAdd, Int.reduceSub, Int.reduceLE, Int.reduceLT, Int.reduceEq, Int.reduceNe, Int.reduceToNat, Int.reduceNeg, reduceIte, reduceCtorEq, eq_false c1, wrap_i64 _ w1, eq_false c2, e0]
      refine H.newR [(aint 0), anil, anil] rfl (fun b2 h2 H => ?_)
      have e0 := H.getP 0 rfl
      have e1 := H.getP 1 rfl
      simp (maxSteps := 4000000) -implicitDefEqProofs (disch := omega) only [push_cast, Nat.reduceAdd, Nat.reduceLeDiff, Nat.reduceMul, Nat.reduceSub, Nat.reduceLT, Nat.reduceEqDiff, Int.reduceAdd, Int.reduceSub, Int.reduceLE, Int.reduceLT, Int.reduceEq, Int.reduceNe, Int.reduceToNat, Int.reduceNeg, reduceIte, reduceCtorEq, eq_false c1, wrap_i64 _ w1, eq_false c2, e0, e1]
      refine H.stP 1 ((ApiPatch.enc a1_) ++ [anil]) rfl rfl rfl rfl (Nat.le_of_ble_eq_true rfl) rfl (fun h3 H => ?_)
      have e0 := H.getP 0 rfl
      have e1 := H.getP 1 rfl
      simp (maxSteps := 4000000) -implicitDefEqProofs (disch := omega) only [push_cast, Nat.reduceAdd, Nat.reduceLeDiff, Nat.reduceMul, Nat.reduceSub, Nat.reduceLT, Nat.reduceEqDiff, Int.reduceAdd, Int.reduceSub, Int.reduceLE, Int.reduceLT, Int.reduceEq, Int.reduceNe, Int.reduceToNat, Int.reduceNeg, reduceIte, reduceCtorEq, eq_false c1, wrap_i64 _ w1, eq_false c2, e0, e1]
      obtain ⟨inv1, mu1, hi1, hs1⟩ := hm
      replace H := H.addNil 1 (some (38, 0))
      replace H := H.perm [0, 1, 2] (by decide)
      refine awp_loop (σ := (ApiPatch × (List (List ByteArray))) × AV × Hp) (fun ⟨⟨a1, a2⟩, x1, h4⟩ => ⟨(((List.replicate 39 AV.any).set 0 (.isl 1 (a0_.map (encSl 1 AM.encStr)))).set 3 (.optr b1 2 0 0)).set 6 (.optr b2 3 0 0), h4⟩) (fun ⟨⟨a1, a2⟩, x1, h4⟩ => inv1 (a1, a2) ∧ AM.Own h0 h4 [⟨(.optr b1 2 0 0), true, 2, [(ApiPatch.enc a1_)], some (25, 2)⟩, ⟨(.optr b2 3 0 0), true, 3, [((ApiPatch.enc a1) ++ [x1])], some (47, 3)⟩, ⟨x1, false, 1, a2.map linesN, some (38, 0)⟩]) (fun ⟨⟨a1, a2⟩, x1, h4⟩ => mu1 (a1, a2)) ⟨(a1_, ([] : List (List ByteArray))), anil, h3⟩ (Retell.weak (by simp [Weak, push_cast]) (Hp.sub.refl _)) ⟨hi1, H⟩ ?_
      rintro ⟨⟨a1, a2⟩, x1, h4⟩ ⟨hi1, H⟩
      have hm := hs1 _ hi1
      dsimp only at hm H ⊢
      have e0 := H.getP 0 rfl
      have e1 := H.getP 1 rfl
      simp (maxSteps := 4000000) -implicitDefEqProofs (disch := omega) only [push_cast, Nat.reduceAdd, Nat.reduceLeDiff, Nat.reduceMul, Nat.reduceSub, Nat.reduceLT, Nat.reduceEqDiff, Int.reduceAdd, Int.reduceSub, Int.reduceLE, Int.reduceLT, Int.reduceEq, Int.reduceNe, Int.reduceToNat, Int.reduceNeg, reduceIte, reduceCtorEq, eq_false c1, wrap_i64 _ w1, eq_false c2, H.lenE 2 rfl tab_22, e0, e1]
      rw [fork_cond]
      refine ⟨fun c3 => ?_, fun c3 => ?_⟩
      · replace hm := ifp hm c3
        have e0 := H.getP 0 rfl
        have e1 := H.getP 1 rfl
        simp (maxSteps := 4000000) -implicitDefEqProofs (disch := omega) only [push_cast, Nat.reduceAdd, Nat.reduceLeDiff, Nat.reduceMul, Nat.reduceSub, Nat.reduceLT, Nat.reduceEqDiff, Int.reduceAdd, Int.reduceSub, Int.reduceLE, Int.reduceLT, Int.reduceEq, Int.reduceNe, Int.reduceToNat, Int.reduceNeg, reduceIte, reduceCtorEq, eq_false c1, wrap_i64 _ w1, eq_false c2, eq_true c3, e0, e1]
        obtain ⟨h5, HF1, hB1⟩ := H.frame [2, 1] (by decide)
        refine calls_of (patch_book_page_i0.okN hm HF1) ?_
        rintro _ h6 ⟨r1, v1, v2, x2, rfl, H', hm⟩
        replace H := hB1 _ _ rfl H'
        have e0 := H.getP 0 rfl
        have e1 := H.getP 1 rfl
        simp (maxSteps := 4000000) -implicitDefEqProofs (disch := omega) only [push_cast, Nat.reduceAdd, Nat.reduceLeDiff, Nat.reduceMul, Nat.reduceSub, Nat.reduceLT, Nat.reduceEqDiff, Int.reduceAdd, Int.reduceSub, Int.reduceLE, Int.reduceLT, Int.reduceEq, Int.reduceNe, Int.reduceToNat, Int.reduceNeg, reduceIte, reduceCtorEq, eq_false c1, wrap_i64 _ w1, eq_false c2, eq_true c3, e0, e1]
        rw [fork_bool]
        refine ⟨fun c4 => ?_, fun c4 => ?_⟩
        · replace hm := ifp hm c4
          have e0 := H.getP 0 rfl
          have e1 := H.getP 1 rfl
          simp (maxSteps := 4000000) -implicitDefEqProofs (disch := omega) only [push_cast, Nat.reduceAdd, Nat.reduceLeDiff, Nat.reduceMul, Nat.reduceSub, Nat.reduceLT, Nat.reduceEqDiff, Int.reduceAdd, Int.reduceSub, Int.reduceLE, Int.reduceLT, Int.reduceEq, Int.reduceNe, Int.reduceToNat, Int.reduceNeg, reduceIte, reduceCtorEq, eq_false c1, wrap_i64 _ w1, eq_false c2, eq_true c3, c4, e0, e1]
          exact retQ_o (.inl rfl) (x := .tup [anil, aint 1]) rfl (Shift.refl _ _) ⟨(([] : List (List ByteArray)), 1), anil, rfl, (H.take 0).addNil 1 (some (38, 0)), hm⟩
        · replace hm := ifn hm (by rw [c4]; exact Bool.false_ne_true)
          have e0 := H.getP 0 rfl
          have e1 := H.getP 1 rfl
          simp (maxSteps := 4000000) -implicitDefEqProofs (disch := omega) only [push_cast, Nat.reduceAdd, Nat.reduceLeDiff, Nat.reduceMul, Nat.reduceSub, Nat.reduceLT, Nat.reduceEqDiff, Int.reduceAdd, Int.reduceSub, Int.reduceLE, Int.reduceLT, Int.reduceEq, Int.reduceNe, Int.reduceToNat, Int.reduceNeg, reduceIte, reduceCtorEq, eq_false c1, wrap_i64 _ w1, eq_false c2, eq_true c3, c4, e0, e1]
          replace H := H.perm [0, 1, 2] (by decide)
          exact ⟨⟨(v1, v2), x2, h6⟩, hm.2, ⟨hm.1, H⟩, Retell.weak (by simp [Weak, push_cast]) (Hp.sub.refl _)⟩
      · replace hm := ifn hm c3
        have e0 := H.getP 0 rfl
        have e1 := H.getP 1 rfl
        simp (maxSteps := 4000000) -implicitDefEqProofs (disch := omega) only [push_cast, Nat.reduceAdd, Nat.reduceLeDiff, Nat.reduceMul, Nat.reduceSub, Nat.reduceLT, Nat.reduceEqDiff, Int.reduceAdd, Int.reduceSub, Int.reduceLE, Int.reduceLT, Int.reduceEq, Int.reduceNe, Int.reduceToNat, Int.reduceNeg, reduceIte, reduceCtorEq, eq_false c1, wrap_i64 _ w1, eq_false c2, eq_false c3, e0, e1]
        rw [fork_cond]
        refine ⟨fun c5 => ?_, fun c5 => ?_⟩
        · replace hm := ifp hm c5
          have e0 := H.getP 0 rfl
          have e1 := H.getP 1 rfl
          simp (maxSteps := 4000000) -implicitDefEqProofs (disch := omega) only [push_cast, Nat.reduceAdd, Nat.reduceLeDiff, Nat.reduceMul, Nat.reduceSub, Nat.reduceLT, Nat.reduceEqDiff, Int.reduceAdd, Int.reduceSub, Int.reduceLE, Int.reduceLT, Int.reduceEq, Int.reduceNe, Int.reduceToNat, Int.reduceNeg, reduceIte, reduceCtorEq, eq_false c1, wrap_i64 _ w1, eq_false c2, eq_false c3, eq_true c5, e0, e1]
          exact retQ_o (.inl rfl) (x := .tup [anil, aint 1]) rfl (Shift.refl _ _) ⟨(([] : List (List ByteArray)), 1), anil, rfl, (H.take 0).addNil 1 (some (38, 0)), hm⟩
        · replace hm := ifn hm c5
          have e0 := H.getP 0 rfl
          have e1 := H.getP 1 rfl
          simp (maxSteps := 4000000) -implicitDefEqProofs (disch := omega) only [push_cast, Nat.reduceAdd, Nat.reduceLeDiff, Nat.reduceMul, Nat.reduceSub, Nat.reduceLT, Nat.reduceEqDiff, Int.reduceAdd, Int.reduceSub, Int.reduceLE, Int.reduceLT, Int.reduceEq, Int.reduceNe, Int.reduceToNat, Int.reduceNeg, reduceIte, reduceCtorEq, eq_false c1, wrap_i64 _ w1, eq_false c2, eq_false c3, eq_false c5, e0, e1]
          exact retQ_o (.inl rfl) (x := .tup [x1, aint 0]) rfl (Shift.refl _ _) ⟨(a2, 0), x1, rfl, H.perm [2] (by decide), hm⟩
end Go.Proofs.YtlnjajfagildnaaDoor
