/- Pages: the walk of pages.Fill. -/
import Derived.Test.YtdobeigblnpjhaaPuD
namespace Go.Proofs.Ytdobeigblnpjhaa
open Go Go.Proofs.Ytdobeigblnpjhaa.AM
set_option maxRecDepth 100000
set_option linter.unusedSimpArgs false
set_option maxHeartbeats 4000000

structure FS where
  s : Nat
  k : Nat
  ps : List (List Strip)
  sheet : AV
  out : AV
  h : Hp

structure FInv (l : List Strip) (H : Int) (h0 : Hp) (bf : Nat) (x : FS) : Prop where
  le : x.s + x.k ≤ l.length
  fill : fill l H = x.ps ++ fill (l.drop x.s) H
  first : firstN (l.drop x.s) H 0 = firstN (l.drop x.s) H x.k
  heap : x.h bf = some ⟨2, [[x.sheet, x.out]]⟩
  sheet : SlOf x.h x.sheet ((l.drop x.s).take x.k)
  out : OutA h0 x.h x.out x.ps
  sub : h0.sub x.h
  many : x.ps.length + (l.length - x.s) ≤ l.length

theorem OutA.sub {h0 h h' : Hp} {x : AV} {ps : List (List Strip)} (o : OutA h0 h x ps) (k : h.sub h') : OutA h0 h' x ps := by
  obtain ⟨xs, a, b⟩ := o
  exact ⟨xs, PagesAt.congr (fun b o q _ => k _ _ q) a, b.1.trans k, b.2.imp id fun ⟨bo, q1, q2, q3⟩ => ⟨bo, q1, q2, k _ _ q3⟩⟩
theorem OutA.set {h0 h : Hp} {x : AV} {ps : List (List Strip)} {bf : Nat} {rs : List (List AV)} (o : OutA h0 h x ps) (h0f : h0 bf = none) (hf : h bf = some ⟨2, rs⟩) (r : List (List AV)) : OutA h0 (h.upd bf ⟨2, r⟩) x ps := by
  obtain ⟨xs, a, b⟩ := o
  refine ⟨xs, PagesAt.congr (fun b' o q q2 => ?_) a, Acc.set b h0f fun n e => ?_⟩
  · have hne : b' ≠ bf := by intro e; subst e; rw [hf] at q; cases q; simp at q2
    rw [Hp.upd_ne _ _ hne]; exact q
  · rcases b.2 with ⟨_, q⟩ | ⟨bo, _, q, q3⟩
    · rw [q] at e; cases e
    · rw [q] at e; cases e; rw [hf] at q3; cases q3

theorem fInv_cut {l : List Strip} {H : Int} {h0 : Hp} {bf s n : Nat} {ps : List (List Strip)} {out' : AV} {h3 : Hp} {page : List Strip} (hn : 0 < n) (hle : s + n ≤ l.length) (hf : firstN (l.drop s) H 0 = (n, false)) (hfill : fill l H = ps ++ fill (l.drop s) H)
    (hmany : ps.length + (l.length - s) ≤ l.length) (hp : page = (l.drop s).take n) (hs : h0.sub h3) (hheap : h3 bf = some ⟨2, [[anil, out']]⟩) (ho : OutA h0 h3 out' (ps ++ [page])) : FInv l H h0 bf ⟨s + n, 0, ps ++ [page], anil, out', h3⟩ where
  le := hle
  fill := by
    subst hp
    rw [hfill, fill_cut (by rw [hf]), hf, List.append_assoc, List.drop_drop]; rfl
  first := rfl
  heap := hheap
  sheet := .inl ⟨by simp, rfl⟩
  out := ho
  sub := hs
  many := by simp; omega

theorem mu_lt {L s n k : Nat} (hn : 0 < n) (hle : s + n ≤ L) : (L - (s + n)) * (L + 2) + (L - (s + n) - 0) < (L - s) * (L + 2) + (L - s - k) := by
  obtain ⟨a, ha⟩ : ∃ a, L - s = a + 1 := ⟨L - s - 1, by omega⟩
  have h1 : (L - (s + n)) * (L + 2) ≤ a * (L + 2) := Nat.mul_le_mul_right _ (by omega)
  rw [ha, Nat.add_mul]; omega

theorem notesN_drop (l : List Strip) (i : Nat) : notesN (l.drop i) ≤ notesN l := by
  unfold notesN
  rw [List.map_drop]
  have := congrArg List.sum (List.take_append_drop i (l.map (·.notes.length)))
  rw [List.sum_append] at this
  omega

theorem fill_calls (h0 : Hp) (l : List Strip) (H : Int) (hl : l.length + notesN l ≤ 1000000000) :
    ACalls Try.prog n_pages_Fill [.isl 6 (l.map encStrip), aint H] h0 fun e h' => ∃ x, e = .ret x ∧ h0.sub h' ∧ OutA h0 h' x (fill l H) := by
  refine enter_pages_Fill ?_
  simp -implicitDefEqProofs (disch := omega) only [push_cast, wrap_i64, Nat.reduceAdd, Nat.reduceLeDiff, Nat.reduceMul, Nat.reduceSub, Nat.reduceLT, Nat.reduceEqDiff, Int.reduceAdd, Int.reduceSub, Int.reduceLE, Int.reduceLT, Int.reduceEq, Int.reduceNe, Int.reduceToNat, Int.reduceNeg, reduceIte, reduceCtorEq, ac_pages_Fill]
  intro bf hbf
  simp -implicitDefEqProofs (disch := omega) only [push_cast, wrap_i64, Nat.reduceAdd, Nat.reduceLeDiff, Nat.reduceMul, Nat.reduceSub, Nat.reduceLT, Nat.reduceEqDiff, Int.reduceAdd, Int.reduceSub, Int.reduceLE, Int.reduceLT, Int.reduceEq, Int.reduceNe, Int.reduceToNat, Int.reduceNeg, reduceIte, reduceCtorEq]
  refine awp_loop (σ := FS) (fun x => ⟨[.isl 6 (l.map encStrip), aint H, .any, .any, .any, .optr bf 2 0 0, .fn (.func 11) [] [.optr bf 2 0 0], aint (x.s + x.k)] ++ List.replicate 58 .any, x.h⟩)
    (FInv l H h0 bf) (fun x => (l.length - x.s) * (l.length + 2) + (l.length - x.s - x.k)) ⟨0, 0, [], anil, anil, h0.upd bf ⟨2, [[anil, anil]]⟩⟩ (Retell.weak (by simp [Weak, push_cast]) (Hp.sub.refl _))
    ⟨by simp, by simp, by simp, by simp, .inl ⟨by simp, rfl⟩, ⟨[], by simp [PagesAt], (Hp.sub.refl h0).upd _ hbf, .inl ⟨rfl, rfl⟩⟩, (Hp.sub.refl h0).upd _ hbf, by simp⟩ ?_
  rintro ⟨s, k, ps, sheet, out, h⟩ ⟨hle, hfill, hfirst, hheap, hsheet, hout, hsub, hmany⟩
  simp only at hle hfill hfirst hheap hsheet hout hsub hmany ⊢
  by_cases hlt : s + k < l.length
  · have hx : l[s + k]? = some l[s + k] := List.getElem?_eq_getElem hlt
    have hc : ((s : Int) + (k : Int) < (l.length : Int)) := by omega
    have hcn : ((s : Int) + (k : Int)).toNat = s + k := by omega
    have hcp : (0 : Int) ≤ (s : Int) + (k : Int) := by omega
    have hk : ((l.drop s).take k).length = k := by simp; omega
    have hrk : s + k < l.length := hlt
    have hsz : ((l.drop s).take k).length * 80 ≤ 140737488355328 := by rw [hk]; omega
    simp -implicitDefEqProofs (disch := omega) only [push_cast, wrap_i64, Nat.reduceAdd, Nat.reduceLeDiff, Nat.reduceMul, Nat.reduceSub, Nat.reduceLT, Nat.reduceEqDiff, Int.reduceAdd, Int.reduceSub, Int.reduceLE, Int.reduceLT, Int.reduceEq, Int.reduceNe, Int.reduceToNat, Int.reduceNeg, reduceIte, reduceCtorEq, hc, hx, encStrip, hcn, hcp]
    intro b8 hb8
    have hh8 := fun o => Hp.upd_old (o := o) hb8 hheap
    simp -implicitDefEqProofs (disch := omega) only [push_cast, wrap_i64, Nat.reduceAdd, Nat.reduceLeDiff, Nat.reduceMul, Nat.reduceSub, Nat.reduceLT, Nat.reduceEqDiff, Int.reduceAdd, Int.reduceSub, Int.reduceLE, Int.reduceLT, Int.reduceEq, Int.reduceNe, Int.reduceToNat, Int.reduceNeg, reduceIte, reduceCtorEq, hh8, Hp.upd_upd]
    refine ⟨⟨?a1, ?a2, ?b1⟩, ⟨?a3, ?b2⟩, ?b3⟩
    case' a1 | a2 | a3 =>
      refine calls_of (clone_calls _ _ _ (hsheet.sub ((Hp.sub.refl h).upd _ hb8)) hsz) ?_
      rintro e h1 ⟨y, rfl, hsub1, acc⟩
      have hf1 := hsub1 _ _ (hh8 _)
      have hf18 := hsub1 b8 _ (Hp.upd_same _ _ _)
      simp -implicitDefEqProofs (disch := omega) only [push_cast, wrap_i64, Nat.reduceAdd, Nat.reduceLeDiff, Nat.reduceMul, Nat.reduceSub, Nat.reduceLT, Nat.reduceEqDiff, Int.reduceAdd, Int.reduceSub, Int.reduceLE, Int.reduceLT, Int.reduceEq, Int.reduceNe, Int.reduceToNat, Int.reduceNeg, reduceIte, reduceCtorEq, backK, hf1, hf18]
      intro b26 hb26
      simp -implicitDefEqProofs (disch := omega) only [push_cast, wrap_i64, Nat.reduceAdd, Nat.reduceLeDiff, Nat.reduceMul, Nat.reduceSub, Nat.reduceLT, Nat.reduceEqDiff, Int.reduceAdd, Int.reduceSub, Int.reduceLE, Int.reduceLT, Int.reduceEq, Int.reduceNe, Int.reduceToNat, Int.reduceNeg, reduceIte, reduceCtorEq]
      refine appR_acc (acc.new _ hb26) rfl (by omega) (by simp) (by simp; omega) ?_
      intro x' h2 acc2 _ _
      have hss := ((Hp.sub.refl h).upd _ hb8).trans acc2.1
      have hf2 := acc2.1 _ _ (hh8 _)
      have hf28 := acc2.1 b8 _ (Hp.upd_same _ _ _)
      clear hf1 hf18 hb26 acc hsub1
    case' b1 | b2 | b3 =>
      intro b26 hb26
      have hh9 := fun o => Hp.upd_old (o := o) hb26 (hh8 _)
      simp -implicitDefEqProofs (disch := omega) only [push_cast, wrap_i64, Nat.reduceAdd, Nat.reduceLeDiff, Nat.reduceMul, Nat.reduceSub, Nat.reduceLT, Nat.reduceEqDiff, Int.reduceAdd, Int.reduceSub, Int.reduceLE, Int.reduceLT, Int.reduceEq, Int.reduceNe, Int.reduceToNat, Int.reduceNeg, reduceIte, reduceCtorEq, hh9]
      refine calls_of (clone_calls _ _ _ (hsheet.sub (((Hp.sub.refl h).upd _ hb8).upd _ (Hp.upd_none hb26).2)) hsz) ?_
      rintro e h1 ⟨y, rfl, hsub1, acc⟩
      have hf1 := hsub1 _ _ (Hp.upd_same _ _ _)
      simp -implicitDefEqProofs (disch := omega) only [push_cast, wrap_i64, Nat.reduceAdd, Nat.reduceLeDiff, Nat.reduceMul, Nat.reduceSub, Nat.reduceLT, Nat.reduceEqDiff, Int.reduceAdd, Int.reduceSub, Int.reduceLE, Int.reduceLT, Int.reduceEq, Int.reduceNe, Int.reduceToNat, Int.reduceNeg, reduceIte, reduceCtorEq, backK, hf1]
      refine appR_acc acc rfl (by omega) (by simp) (by simp; omega) ?_
      intro x' h2 acc2 _ _
      have hss := (((Hp.sub.refl h).upd _ hb8).upd _ (Hp.upd_none hb26).2).trans acc2.1
      have hf2 := acc2.1 _ _ (hh9 _)
      have hf28 := acc2.1 b8 _ (Hp.upd_old hb26 (Hp.upd_same _ _ _))
      clear hf1 hb26 hh9 acc hsub1
    all_goals
      rcases acc2.2 with ⟨e, _⟩ | ⟨bw, _, rfl, hw⟩
      · simp at e
      clear acc2
      have hwt : ((l.drop s).take (k + 1)).map encStrip = ((l.drop s).take k).map encStrip ++ [encStrip l[s + k]] := by
        rw [List.take_succ_eq_append_getElem (by simp; omega), List.map_append]; simp
      have hwl : ((l.drop s).take (k + 1)).length = k + 1 := by simp; omega
      have hll : (((l.drop s).take k).map encStrip ++ [encStrip l[s + k]]).length = k + 1 := by rw [← hwt]; simp; omega
      have hbwf : bw ≠ bf := by intro e; subst e; rw [hf2] at hw; cases hw
      have hsw : ∀ h' : Hp, h' bw = h2 bw → SlOf h' (.osl bw 6 0 (k + 1)) ((l.drop s).take (k + 1)) := fun h' e => .inr ⟨bw, [], by rw [hwl], by rw [e, hwt, List.append_nil]; exact hw⟩
      have hlen : (((l.drop s).take k).map encStrip ++ [[AV.isl 4 (l[s + k].line.spots.map encSpot), AV.val (.int .i64 l[s + k].line.width), AV.val (.int .i64 l[s + k].line.bits), AV.val (.int .i64 l[s + k].keep), AV.val (.bool l[s + k].brk), AV.isl 3 (l[s + k].notes.map encLine)]]).length = k + 1 := hll
      have hso : SlOf h2 sheet ((l.drop s).take k) := hsheet.sub hss
      have ho2 : OutA h0 h2 out ps := hout.sub hss
      have hs2 : h0.sub h2 := hsub.trans hss
      simp -implicitDefEqProofs (disch := omega) only [push_cast, wrap_i64, Nat.reduceAdd, Nat.reduceLeDiff, Nat.reduceMul, Nat.reduceSub, Nat.reduceLT, Nat.reduceEqDiff, Int.reduceAdd, Int.reduceSub, Int.reduceLE, Int.reduceLT, Int.reduceEq, Int.reduceNe, Int.reduceToNat, Int.reduceNeg, reduceIte, reduceCtorEq, hlen, hf28]
      rw [fork_bool]
      refine ⟨fun hb => ?_, fun hb => ?_⟩
      · have hfst : firstN (l.drop s) H 0 = (k + 1, false) := by rw [hfirst, firstN, dif_pos (by simp; omega), if_pos (by simpa using hb)]
        simp -implicitDefEqProofs (disch := omega) only [push_cast, wrap_i64, Nat.reduceAdd, Nat.reduceLeDiff, Nat.reduceMul, Nat.reduceSub, Nat.reduceLT, Nat.reduceEqDiff, Int.reduceAdd, Int.reduceSub, Int.reduceLE, Int.reduceLT, Int.reduceEq, Int.reduceNe, Int.reduceToNat, Int.reduceNeg, reduceIte, reduceCtorEq, hlen, hf2]
        refine calls_of (fill1_calls h0 _ bf (k + 1) _ out ((l.drop s).take (k + 1)) ps (hs2.upd _ hbf) hbf (Hp.upd_same _ _ _) (hsw _ (Hp.upd_ne _ _ hbwf)) (by omega) (ho2.set hbf hf2 _) (by rw [hwl]; omega) (by omega)) ?_
        rintro e h3 ⟨y3, out', rfl, hs3, hf3, ho3⟩
        rw [List.take_of_length_le (by omega)] at ho3
        simp -implicitDefEqProofs (disch := omega) only [push_cast, wrap_i64, Nat.reduceAdd, Nat.reduceLeDiff, Nat.reduceMul, Nat.reduceSub, Nat.reduceLT, Nat.reduceEqDiff, Int.reduceAdd, Int.reduceSub, Int.reduceLE, Int.reduceLT, Int.reduceEq, Int.reduceNe, Int.reduceToNat, Int.reduceNeg, reduceIte, reduceCtorEq, backK]
        refine ⟨⟨s + (k + 1), 0, ps ++ [(l.drop s).take (k + 1)], anil, out', h3⟩, mu_lt (by omega) (by omega), fInv_cut (by omega) (by omega) hfst hfill hmany rfl hs3 hf3 ho3, Retell.weak ?_ (Hp.sub.refl _)⟩
        simp [Weak, push_cast] <;> omega
      · have hwn : ((l.drop s).take (k + 1)).length + notesN ((l.drop s).take (k + 1)) ≤ 1000000000000 := by
          have := notesN_le (l.drop s) (k + 1)
          have := notesN_drop l s
          omega
        rcases Nat.eq_zero_or_pos k with hk0 | hkp
        · have n1 : ((1 : Int) < (k : Int) + 1) = False := eq_false (by omega)
          have hnext : firstN (l.drop s) H k = firstN (l.drop s) H (k + 1) := by
            rw [firstN, dif_pos (by simp; omega), if_neg (by simp [hb]), if_neg (by omega)]
          simp -implicitDefEqProofs (disch := omega) only [push_cast, wrap_i64, Nat.reduceAdd, Nat.reduceLeDiff, Nat.reduceMul, Nat.reduceSub, Nat.reduceLT, Nat.reduceEqDiff, Int.reduceAdd, Int.reduceSub, Int.reduceLE, Int.reduceLT, Int.reduceEq, Int.reduceNe, Int.reduceToNat, Int.reduceNeg, reduceIte, reduceCtorEq, hlen, hf2, n1]
          refine ⟨⟨s, k + 1, ps, .osl bw 6 0 (k + 1), out, h2.upd bf ⟨2, [[.osl bw 6 0 (k + 1), out]]⟩⟩, by simp only; omega, ⟨by simp only; omega, hfill, by rw [hfirst]; exact hnext, Hp.upd_same _ _ _, hsw _ (Hp.upd_ne _ _ hbwf), ho2.set hbf hf2 _, hs2.upd _ hbf, hmany⟩, Retell.weak ?_ (Hp.sub.refl _)⟩
          simp [Weak, push_cast] <;> omega
        · have n1 : ((1 : Int) < (k : Int) + 1) = True := eq_true (by omega)
          simp -implicitDefEqProofs (disch := omega) only [push_cast, wrap_i64, Nat.reduceAdd, Nat.reduceLeDiff, Nat.reduceMul, Nat.reduceSub, Nat.reduceLT, Nat.reduceEqDiff, Int.reduceAdd, Int.reduceSub, Int.reduceLE, Int.reduceLT, Int.reduceEq, Int.reduceNe, Int.reduceToNat, Int.reduceNeg, reduceIte, reduceCtorEq, hlen, hf2, n1]
          refine calls_lent _ (high_pure ((l.drop s).take (k + 1)) hwn) rfl ⟨(hsw h2 rfl).lent, trivial⟩ ?_
          simp -implicitDefEqProofs (disch := omega) only [push_cast, wrap_i64, Nat.reduceAdd, Nat.reduceLeDiff, Nat.reduceMul, Nat.reduceSub, Nat.reduceLT, Nat.reduceEqDiff, Int.reduceAdd, Int.reduceSub, Int.reduceLE, Int.reduceLT, Int.reduceEq, Int.reduceNe, Int.reduceToNat, Int.reduceNeg, reduceIte, reduceCtorEq, n1, fork_cond]
          refine ⟨fun hh => ?_, fun hh => ?_⟩
          · have hsl := stay_le ((l.drop s).take k)
            have hsp := stay_pos ((l.drop s).take k) (by rw [hk]; exact hkp)
            have hfst : firstN (l.drop s) H 0 = (stay ((l.drop s).take k), false) := by
              rw [hfirst, firstN, dif_pos (by simp; omega), if_neg (by simp [hb]), if_pos ⟨hkp, hh⟩]
            refine calls_of (cut_calls h2 bf sheet out ((l.drop s).take k) hf2 hso (by rw [hk]; omega)) ?_
            rintro e h3 ⟨rfl, rfl⟩
            rw [hk] at hsl
            simp -implicitDefEqProofs (disch := omega) only [push_cast, wrap_i64, Nat.reduceAdd, Nat.reduceLeDiff, Nat.reduceMul, Nat.reduceSub, Nat.reduceLT, Nat.reduceEqDiff, Int.reduceAdd, Int.reduceSub, Int.reduceLE, Int.reduceLT, Int.reduceEq, Int.reduceNe, Int.reduceToNat, Int.reduceNeg, reduceIte, reduceCtorEq, backK]
            have e1 : (s : Int) + (k : Int) + 1 - ((k : Int) + 1 - (stay ((l.drop s).take k) : Int)) = (s : Int) + (stay ((l.drop s).take k) : Int) := by omega
            refine calls_of (fill1_calls h0 _ bf (stay ((l.drop s).take k)) sheet out ((l.drop s).take k) ps hs2 hbf hf2 hso (stay_le _) ho2 (by rw [hk]; omega) (by omega)) ?_
            rintro e h3 ⟨y3, out', rfl, hs3, hf3, ho3⟩
            rw [List.take_take, Nat.min_eq_left hsl] at ho3
            simp -implicitDefEqProofs (disch := omega) only [push_cast, wrap_i64, Nat.reduceAdd, Nat.reduceLeDiff, Nat.reduceMul, Nat.reduceSub, Nat.reduceLT, Nat.reduceEqDiff, Int.reduceAdd, Int.reduceSub, Int.reduceLE, Int.reduceLT, Int.reduceEq, Int.reduceNe, Int.reduceToNat, Int.reduceNeg, reduceIte, reduceCtorEq, backK]
            refine ⟨⟨s + stay ((l.drop s).take k), 0, ps ++ [(l.drop s).take (stay ((l.drop s).take k))], anil, out', h3⟩, mu_lt hsp (by omega), fInv_cut hsp (by omega) hfst hfill hmany rfl hs3 hf3 ho3, Retell.weak ?_ (Hp.sub.refl _)⟩
            simp [Weak, push_cast] <;> omega
          · have hnext : firstN (l.drop s) H k = firstN (l.drop s) H (k + 1) := by
              rw [firstN, dif_pos (by simp; omega), if_neg (by simp [hb]), if_neg (fun q => hh q.2)]
            simp -implicitDefEqProofs (disch := omega) only [push_cast, wrap_i64, Nat.reduceAdd, Nat.reduceLeDiff, Nat.reduceMul, Nat.reduceSub, Nat.reduceLT, Nat.reduceEqDiff, Int.reduceAdd, Int.reduceSub, Int.reduceLE, Int.reduceLT, Int.reduceEq, Int.reduceNe, Int.reduceToNat, Int.reduceNeg, reduceIte, reduceCtorEq, hf2]
            refine ⟨⟨s, k + 1, ps, .osl bw 6 0 (k + 1), out, h2.upd bf ⟨2, [[.osl bw 6 0 (k + 1), out]]⟩⟩, by simp only; omega, ⟨by simp only; omega, hfill, by rw [hfirst]; exact hnext, Hp.upd_same _ _ _, hsw _ (Hp.upd_ne _ _ hbwf), ho2.set hbf hf2 _, hs2.upd _ hbf, hmany⟩, Retell.weak ?_ (Hp.sub.refl _)⟩
            simp [Weak, push_cast] <;> omega
  · have hc : ¬ ((s : Int) + (k : Int) < (l.length : Int)) := by omega
    have hk : ((l.drop s).take k).length = k := by simp; omega
    have hdl : (l.drop s).length = k := by simp; omega
    have htk : (l.drop s).take k = l.drop s := List.take_of_length_le (by omega)
    have hfin : fill l H = ps ++ [((l.drop s).take k).take k] := by
      have e1 : firstN (l.drop s) H 0 = ((l.drop s).length, true) := by rw [hfirst, firstN, dif_neg (by omega)]
      rw [hfill, fill_all (by rw [e1]), e1, htk, hdl]
    rcases hsheet with ⟨e, rfl⟩ | ⟨b, rest, rfl, hb⟩
    · have k0 : k = 0 := by rw [← hk, e]; rfl
      simp -implicitDefEqProofs (disch := omega) only [push_cast, wrap_i64, Nat.reduceAdd, Nat.reduceLeDiff, Nat.reduceMul, Nat.reduceSub, Nat.reduceLT, Nat.reduceEqDiff, Int.reduceAdd, Int.reduceSub, Int.reduceLE, Int.reduceLT, Int.reduceEq, Int.reduceNe, Int.reduceToNat, Int.reduceNeg, reduceIte, reduceCtorEq, hc, hheap]
      refine calls_of (fill1_calls h0 h bf 0 anil out ((l.drop s).take k) ps hsub hbf hheap (.inl ⟨e, rfl⟩) (by simp) hout (by rw [hk]; omega) (by omega)) ?_
      rintro e h1 ⟨y, out', rfl, hs1, hf1, ho1⟩
      simp -implicitDefEqProofs (disch := omega) only [push_cast, wrap_i64, Nat.reduceAdd, Nat.reduceLeDiff, Nat.reduceMul, Nat.reduceSub, Nat.reduceLT, Nat.reduceEqDiff, Int.reduceAdd, Int.reduceSub, Int.reduceLE, Int.reduceLT, Int.reduceEq, Int.reduceNe, Int.reduceToNat, Int.reduceNeg, reduceIte, reduceCtorEq, backK, hf1]
      refine retQ_ret out' h1 ?_ (Hp.sub.refl h1) ⟨out', rfl, hs1, by rw [hfin]; rw [k0] at ho1 ⊢; exact ho1⟩
      simp [push_cast]
    · simp -implicitDefEqProofs (disch := omega) only [push_cast, wrap_i64, Nat.reduceAdd, Nat.reduceLeDiff, Nat.reduceMul, Nat.reduceSub, Nat.reduceLT, Nat.reduceEqDiff, Int.reduceAdd, Int.reduceSub, Int.reduceLE, Int.reduceLT, Int.reduceEq, Int.reduceNe, Int.reduceToNat, Int.reduceNeg, reduceIte, reduceCtorEq, hc, hheap]
      refine calls_of (fill1_calls h0 h bf ((l.drop s).take k).length _ out ((l.drop s).take k) ps hsub hbf hheap (.inr ⟨b, rest, rfl, hb⟩) (Nat.le_refl _) hout (by rw [hk]; omega) (by omega)) ?_
      rintro e h1 ⟨y, out', rfl, hs1, hf1, ho1⟩
      simp -implicitDefEqProofs (disch := omega) only [push_cast, wrap_i64, Nat.reduceAdd, Nat.reduceLeDiff, Nat.reduceMul, Nat.reduceSub, Nat.reduceLT, Nat.reduceEqDiff, Int.reduceAdd, Int.reduceSub, Int.reduceLE, Int.reduceLT, Int.reduceEq, Int.reduceNe, Int.reduceToNat, Int.reduceNeg, reduceIte, reduceCtorEq, backK, hf1]
      refine retQ_ret out' h1 ?_ (Hp.sub.refl h1) ⟨out', rfl, hs1, by rw [hfin]; rw [hk] at ho1; exact ho1⟩
      simp [push_cast]
end Go.Proofs.Ytdobeigblnpjhaa
