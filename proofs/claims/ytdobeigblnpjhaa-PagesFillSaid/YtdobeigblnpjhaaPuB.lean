/- Pages: the walks of the comparisons. -/
import Derived.Test.YtdobeigblnpjhaaCodeB
import Derived.Test.YtdobeigblnpjhaaEval
import Derived.Test.YtdobeigblnpjhaaSp
namespace Go.Proofs.Ytdobeigblnpjhaa
open Go Go.Proofs.Ytdobeigblnpjhaa.AM
set_option maxRecDepth 100000
set_option linter.unusedSimpArgs false

theorem spot_dec (s t : Spot) : (decide (s.x = t.x) && (decide (s.ch = t.ch) && (decide (s.what = t.what) && decide (s.tok = t.tok)))) = decide (s = t) := by
  obtain ⟨a, b, c, d⟩ := s
  obtain ⟨a', b', c', d'⟩ := t
  simp [Bool.decide_and]

theorem take_eq_succ {α : Type} {l m : List α} {i : Nat} (hl : i < l.length) (hm : i < m.length) : l.take (i + 1) = m.take (i + 1) ↔ l.take i = m.take i ∧ l[i] = m[i] := by
  rw [List.take_succ_eq_append_getElem hl, List.take_succ_eq_append_getElem hm]
  constructor
  · intro h
    have := List.append_inj h (by simp; omega)
    exact ⟨this.1, by simpa using this.2⟩
  · rintro ⟨h1, h2⟩; rw [h1, h2]

theorem one_pure (a b : Line) (ha : a.spots.length ≤ 10000000000000) : APure Try.prog n_stylusref20_One [.agg (encLine a), .agg (encLine b)] (abool (decide (a = b))) := by
  intro h
  refine enter_stylusref20_One ?_
  simp -implicitDefEqProofs (disch := omega) only [push_cast, wrap_i64, Nat.reduceAdd, Nat.reduceLeDiff, Nat.reduceMul, Nat.reduceSub, Nat.reduceLT, Nat.reduceEqDiff, Int.reduceAdd, Int.reduceSub, Int.reduceLE, Int.reduceLT, Int.reduceEq, Int.reduceNe, Int.reduceToNat, Int.reduceNeg, reduceIte, reduceCtorEq, ac_stylusref20_One, encLine]
  intro b1 hb1
  simp -implicitDefEqProofs (disch := omega) only [push_cast, wrap_i64, Nat.reduceAdd, Nat.reduceLeDiff, Nat.reduceMul, Nat.reduceSub, Nat.reduceLT, Nat.reduceEqDiff, Int.reduceAdd, Int.reduceSub, Int.reduceLE, Int.reduceLT, Int.reduceEq, Int.reduceNe, Int.reduceToNat, Int.reduceNeg, reduceIte, reduceCtorEq]
  intro b2 hb2
  have hb2' := Hp.upd_none hb2
  have hs : h.sub ((h.upd b1 ⟨3, [encLine a]⟩).upd b2 ⟨3, [encLine b]⟩) := ((Hp.sub.refl h).upd _ hb1).upd _ hb2'.2
  by_cases h1 : a.width = b.width
  · by_cases h2 : a.bits = b.bits
    · by_cases h3 : a.spots.length = b.spots.length
      · have h3' : (a.spots.length : Int) = (b.spots.length : Int) := by omega
        have hne : b1 ≠ b2 := fun e => hb2'.1 e.symm
        have e1 := eq_true h1
        have e2 := eq_true h2
        have e3 := eq_true h3'
        simp -implicitDefEqProofs (disch := omega) only [push_cast, wrap_i64, Nat.reduceAdd, Nat.reduceLeDiff, Nat.reduceMul, Nat.reduceSub, Nat.reduceLT, Nat.reduceEqDiff, Int.reduceAdd, Int.reduceSub, Int.reduceLE, Int.reduceLT, Int.reduceEq, Int.reduceNe, Int.reduceToNat, Int.reduceNeg, reduceIte, reduceCtorEq, e1, e2, e3, hne, Hp.upd_ne, encLine]
        refine awp_loop (σ := Nat) (fun i => ⟨[.any, .any, .optr b1 3 0 0, .optr b2 3 0 0, .any, aint i] ++ List.replicate 39 .any, (h.upd b1 ⟨3, [encLine a]⟩).upd b2 ⟨3, [encLine b]⟩⟩)
          (fun i => i ≤ a.spots.length ∧ a.spots.take i = b.spots.take i) (fun i => a.spots.length - i) 0 (Retell.weak (by simp [Weak, push_cast]) (Hp.sub.refl _)) ⟨Nat.zero_le _, by simp⟩ ?_
        rintro i ⟨hi, he⟩
        by_cases hlt : i < a.spots.length
        · have hltb : i < b.spots.length := by omega
          have hx : a.spots[i]? = some a.spots[i] := List.getElem?_eq_getElem hlt
          have hy : b.spots[i]? = some b.spots[i] := List.getElem?_eq_getElem hltb
          have hc : ((i : Int) < (a.spots.length : Int)) := by omega
          simp -implicitDefEqProofs (disch := omega) only [push_cast, wrap_i64, Nat.reduceAdd, Nat.reduceLeDiff, Nat.reduceMul, Nat.reduceSub, Nat.reduceLT, Nat.reduceEqDiff, Int.reduceAdd, Int.reduceSub, Int.reduceLE, Int.reduceLT, Int.reduceEq, Int.reduceNe, Int.reduceToNat, Int.reduceNeg, reduceIte, reduceCtorEq, hc, hx, hy, hne, Hp.upd_ne, encLine, encSpot, spot_dec, not_decide, fork_cond]
          refine ⟨fun hn => ?_, fun hn => ?_⟩
          · have hab : ¬ a = b := fun e => hn (by simp [e])
            refine retQ_ret (abool (decide (a = b))) h ?_ hs ⟨rfl, rfl⟩
            simp [push_cast, hab]
          · refine ⟨i + 1, by omega, ⟨hlt, (take_eq_succ hlt hltb).2 ⟨he, Decidable.not_not.1 hn⟩⟩, Retell.weak ?_ (Hp.sub.refl _)⟩
            simp [Weak, push_cast]
        · have hc : ¬ ((i : Int) < (a.spots.length : Int)) := by omega
          obtain rfl : i = a.spots.length := by omega
          have hab : a = b := by
            have e : a.spots = b.spots := by
              rw [List.take_length, h3, List.take_length] at he; exact he
            obtain ⟨_, _, _⟩ := a
            obtain ⟨_, _, _⟩ := b
            simp_all
          simp -implicitDefEqProofs (disch := omega) only [push_cast, wrap_i64, Nat.reduceAdd, Nat.reduceLeDiff, Nat.reduceMul, Nat.reduceSub, Nat.reduceLT, Nat.reduceEqDiff, Int.reduceAdd, Int.reduceSub, Int.reduceLE, Int.reduceLT, Int.reduceEq, Int.reduceNe, Int.reduceToNat, Int.reduceNeg, reduceIte, reduceCtorEq, hc, hne, Hp.upd_ne, encLine]
          refine retQ_ret (abool (decide (a = b))) h ?_ hs ⟨rfl, rfl⟩
          simp [push_cast, hab]
      · have hab : ¬ a = b := fun e => h3 (by rw [e])
        have h3' : ¬ (a.spots.length : Int) = (b.spots.length : Int) := by omega
        have hne : b1 ≠ b2 := fun e => hb2'.1 e.symm
        have e1 := eq_true h1
        have e2 := eq_true h2
        simp -implicitDefEqProofs (disch := omega) only [push_cast, wrap_i64, Nat.reduceAdd, Nat.reduceLeDiff, Nat.reduceMul, Nat.reduceSub, Nat.reduceLT, Nat.reduceEqDiff, Int.reduceAdd, Int.reduceSub, Int.reduceLE, Int.reduceLT, Int.reduceEq, Int.reduceNe, Int.reduceToNat, Int.reduceNeg, reduceIte, reduceCtorEq, e1, e2, h3', hne, Hp.upd_ne, encLine]
        refine retQ_ret (abool (decide (a = b))) h ?_ hs ⟨rfl, rfl⟩
        simp [push_cast, hab]
    · have hab : ¬ a = b := fun e => h2 (by rw [e])
      have hne : b1 ≠ b2 := fun e => hb2'.1 e.symm
      have e1 := eq_true h1
      simp -implicitDefEqProofs (disch := omega) only [push_cast, wrap_i64, Nat.reduceAdd, Nat.reduceLeDiff, Nat.reduceMul, Nat.reduceSub, Nat.reduceLT, Nat.reduceEqDiff, Int.reduceAdd, Int.reduceSub, Int.reduceLE, Int.reduceLT, Int.reduceEq, Int.reduceNe, Int.reduceToNat, Int.reduceNeg, reduceIte, reduceCtorEq, e1, h2, hne, Hp.upd_ne, encLine]
      refine retQ_ret (abool (decide (a = b))) h ?_ hs ⟨rfl, rfl⟩
      simp [push_cast, hab]
  · have hab : ¬ a = b := fun e => h1 (by rw [e])
    have hne : b1 ≠ b2 := fun e => hb2'.1 e.symm
    simp -implicitDefEqProofs (disch := omega) only [push_cast, wrap_i64, Nat.reduceAdd, Nat.reduceLeDiff, Nat.reduceMul, Nat.reduceSub, Nat.reduceLT, Nat.reduceEqDiff, Int.reduceAdd, Int.reduceSub, Int.reduceLE, Int.reduceLT, Int.reduceEq, Int.reduceNe, Int.reduceToNat, Int.reduceNeg, reduceIte, reduceCtorEq, h1, hne, Hp.upd_ne, encLine]
    refine retQ_ret (abool (decide (a = b))) h ?_ hs ⟨rfl, rfl⟩
    simp [push_cast, hab]
theorem same20_pure (l m : List Line) (hl : l.length ≤ 10000000000000) (ha : ∀ x ∈ l, x.spots.length ≤ 10000000000000) :
    APure Try.prog n_stylusref20_Same [.isl 3 (l.map encLine), .isl 3 (m.map encLine)] (abool (decide (l = m))) := by
  intro h
  refine enter_stylusref20_Same ?_
  by_cases h3 : l.length = m.length
  · have e3 : ((l.length : Int) = (m.length : Int)) = True := eq_true (by omega)
    simp -implicitDefEqProofs (disch := omega) only [push_cast, wrap_i64, Nat.reduceAdd, Nat.reduceLeDiff, Nat.reduceMul, Nat.reduceSub, Nat.reduceLT, Nat.reduceEqDiff, Int.reduceAdd, Int.reduceSub, Int.reduceLE, Int.reduceLT, Int.reduceEq, Int.reduceNe, Int.reduceToNat, Int.reduceNeg, reduceIte, reduceCtorEq, ac_stylusref20_Same, e3]
    refine awp_loop (σ := Nat) (fun i => ⟨[.isl 3 (l.map encLine), .isl 3 (m.map encLine), .any, .any, .any, aint i] ++ List.replicate 21 .any, h⟩)
      (fun i => i ≤ l.length ∧ l.take i = m.take i) (fun i => l.length - i) 0 (Retell.weak (by simp [Weak, push_cast]) (Hp.sub.refl _)) ⟨Nat.zero_le _, by simp⟩ ?_
    rintro i ⟨hi, he⟩
    by_cases hlt : i < l.length
    · have hltb : i < m.length := by omega
      have hx : l[i]? = some l[i] := List.getElem?_eq_getElem hlt
      have hy : m[i]? = some m[i] := List.getElem?_eq_getElem hltb
      have hc : ((i : Int) < (l.length : Int)) := by omega
      simp -implicitDefEqProofs (disch := omega) only [push_cast, wrap_i64, Nat.reduceAdd, Nat.reduceLeDiff, Nat.reduceMul, Nat.reduceSub, Nat.reduceLT, Nat.reduceEqDiff, Int.reduceAdd, Int.reduceSub, Int.reduceLE, Int.reduceLT, Int.reduceEq, Int.reduceNe, Int.reduceToNat, Int.reduceNeg, reduceIte, reduceCtorEq, hc, hx, hy, encLine]
      refine pures_of _ (one_pure l[i] m[i] (ha _ (List.getElem_mem hlt))) ?_
      simp -implicitDefEqProofs (disch := omega) only [push_cast, wrap_i64, Nat.reduceAdd, Nat.reduceLeDiff, Nat.reduceMul, Nat.reduceSub, Nat.reduceLT, Nat.reduceEqDiff, Int.reduceAdd, Int.reduceSub, Int.reduceLE, Int.reduceLT, Int.reduceEq, Int.reduceNe, Int.reduceToNat, Int.reduceNeg, reduceIte, reduceCtorEq, not_decide, fork_cond]
      refine ⟨fun hn => ?_, fun hn => ?_⟩
      · have hab : ¬ l = m := fun e => hn (by simp [e])
        refine retQ_ret (abool (decide (l = m))) h ?_ (Hp.sub.refl h) ⟨rfl, rfl⟩
        simp [push_cast, hab]
      · refine ⟨i + 1, by omega, ⟨hlt, (take_eq_succ hlt hltb).2 ⟨he, Decidable.not_not.1 hn⟩⟩, Retell.weak ?_ (Hp.sub.refl _)⟩
        simp [Weak, push_cast]
    · have hc : ¬ ((i : Int) < (l.length : Int)) := by omega
      obtain rfl : i = l.length := by omega
      have hab : l = m := by
        rw [List.take_length, h3, List.take_length] at he; exact he
      simp -implicitDefEqProofs (disch := omega) only [push_cast, wrap_i64, Nat.reduceAdd, Nat.reduceLeDiff, Nat.reduceMul, Nat.reduceSub, Nat.reduceLT, Nat.reduceEqDiff, Int.reduceAdd, Int.reduceSub, Int.reduceLE, Int.reduceLT, Int.reduceEq, Int.reduceNe, Int.reduceToNat, Int.reduceNeg, reduceIte, reduceCtorEq, hc]
      refine retQ_ret (abool (decide (l = m))) h ?_ (Hp.sub.refl h) ⟨rfl, rfl⟩
      simp [push_cast, hab]
  · have hab : ¬ l = m := fun e => h3 (by rw [e])
    have h3' : ¬ (l.length : Int) = (m.length : Int) := by omega
    simp -implicitDefEqProofs (disch := omega) only [push_cast, wrap_i64, Nat.reduceAdd, Nat.reduceLeDiff, Nat.reduceMul, Nat.reduceSub, Nat.reduceLT, Nat.reduceEqDiff, Int.reduceAdd, Int.reduceSub, Int.reduceLE, Int.reduceLT, Int.reduceEq, Int.reduceNe, Int.reduceToNat, Int.reduceNeg, reduceIte, reduceCtorEq, ac_stylusref20_Same, h3']
    refine retQ_ret (abool (decide (l = m))) h ?_ (Hp.sub.refl h) ⟨rfl, rfl⟩
    simp [push_cast, hab]

theorem same21_pure (l m : List Strip) (hl : l.length ≤ 10000000000000) (ha : ∀ x ∈ l, x.line.spots.length ≤ 10000000000000 ∧ x.notes.length ≤ 10000000000000 ∧ ∀ y ∈ x.notes, y.spots.length ≤ 10000000000000) :
    APure Try.prog n_stylusref21_Same [.isl 6 (l.map encStrip), .isl 6 (m.map encStrip)] (abool (decide (l = m))) := by
  intro h
  refine enter_stylusref21_Same ?_
  by_cases h3 : l.length = m.length
  · have e3 : ((l.length : Int) = (m.length : Int)) = True := eq_true (by omega)
    simp -implicitDefEqProofs (disch := omega) only [push_cast, wrap_i64, Nat.reduceAdd, Nat.reduceLeDiff, Nat.reduceMul, Nat.reduceSub, Nat.reduceLT, Nat.reduceEqDiff, Int.reduceAdd, Int.reduceSub, Int.reduceLE, Int.reduceLT, Int.reduceEq, Int.reduceNe, Int.reduceToNat, Int.reduceNeg, reduceIte, reduceCtorEq, ac_stylusref21_Same, e3]
    refine awp_loop (σ := Nat) (fun i => ⟨[.isl 6 (l.map encStrip), .isl 6 (m.map encStrip), .any, .any, .any, aint i] ++ List.replicate 63 .any, h⟩)
      (fun i => i ≤ l.length ∧ l.take i = m.take i) (fun i => l.length - i) 0 (Retell.weak (by simp [Weak, push_cast]) (Hp.sub.refl _)) ⟨Nat.zero_le _, by simp⟩ ?_
    rintro i ⟨hi, he⟩
    by_cases hlt : i < l.length
    · have hltb : i < m.length := by omega
      have hx : l[i]? = some l[i] := List.getElem?_eq_getElem hlt
      have hy : m[i]? = some m[i] := List.getElem?_eq_getElem hltb
      have hc : ((i : Int) < (l.length : Int)) := by omega
      have hai := ha _ (List.getElem_mem hlt)
      have no : l[i] ≠ m[i] → ∀ s : St, h.sub s.h → aResults [.tmp 4] s.tm = some (abool false) → retQ [.tmp 4] (fun e h' => e = .ret (abool (decide (l = m))) ∧ h' = h) .ret s := by
        intro hn s hs hr
        have hab : ¬ l = m := fun e => hn (by simp [e])
        exact retQ_ret (abool (decide (l = m))) h (by rw [hr]; simp [hab]) hs ⟨rfl, rfl⟩
      by_cases k1 : l[i].keep = m[i].keep
      · have e1 := eq_true k1
        by_cases k2 : l[i].brk = m[i].brk
        · have e2 : (l[i].brk == m[i].brk) = true := by simp [k2]
          simp -implicitDefEqProofs (disch := omega) only [push_cast, wrap_i64, Nat.reduceAdd, Nat.reduceLeDiff, Nat.reduceMul, Nat.reduceSub, Nat.reduceLT, Nat.reduceEqDiff, Int.reduceAdd, Int.reduceSub, Int.reduceLE, Int.reduceLT, Int.reduceEq, Int.reduceNe, Int.reduceToNat, Int.reduceNeg, reduceIte, reduceCtorEq, hc, hx, hy, encStrip, e1, e2]
          refine pures_of _ (one_pure l[i].line m[i].line hai.1) ?_
          by_cases k3 : l[i].line = m[i].line
          · have e3 := eq_true k3
            simp -implicitDefEqProofs (disch := omega) only [push_cast, wrap_i64, Nat.reduceAdd, Nat.reduceLeDiff, Nat.reduceMul, Nat.reduceSub, Nat.reduceLT, Nat.reduceEqDiff, Int.reduceAdd, Int.reduceSub, Int.reduceLE, Int.reduceLT, Int.reduceEq, Int.reduceNe, Int.reduceToNat, Int.reduceNeg, reduceIte, reduceCtorEq, hc, hx, hy, encStrip, e3, not_decide]
            refine pures_of _ (same20_pure l[i].notes m[i].notes hai.2.1 hai.2.2) ?_
            by_cases k4 : l[i].notes = m[i].notes
            · have e4 := eq_true k4
              simp -implicitDefEqProofs (disch := omega) only [push_cast, wrap_i64, Nat.reduceAdd, Nat.reduceLeDiff, Nat.reduceMul, Nat.reduceSub, Nat.reduceLT, Nat.reduceEqDiff, Int.reduceAdd, Int.reduceSub, Int.reduceLE, Int.reduceLT, Int.reduceEq, Int.reduceNe, Int.reduceToNat, Int.reduceNeg, reduceIte, reduceCtorEq, e4, not_decide]
              have hlm : l[i] = m[i] := by
                revert k1 k2 k3 k4
                cases l[i]; cases m[i]
                simp; intro a b c d; exact ⟨c, a, b, d⟩
              refine ⟨i + 1, by omega, ⟨hlt, (take_eq_succ hlt hltb).2 ⟨he, hlm⟩⟩, Retell.weak ?_ (Hp.sub.refl _)⟩
              simp [Weak, push_cast]
            · simp -implicitDefEqProofs (disch := omega) only [push_cast, wrap_i64, Nat.reduceAdd, Nat.reduceLeDiff, Nat.reduceMul, Nat.reduceSub, Nat.reduceLT, Nat.reduceEqDiff, Int.reduceAdd, Int.reduceSub, Int.reduceLE, Int.reduceLT, Int.reduceEq, Int.reduceNe, Int.reduceToNat, Int.reduceNeg, reduceIte, reduceCtorEq, k4, not_decide]
              exact no (fun e => k4 (by rw [e])) _ (Hp.sub.refl h) (by simp [push_cast])
          · simp -implicitDefEqProofs (disch := omega) only [push_cast, wrap_i64, Nat.reduceAdd, Nat.reduceLeDiff, Nat.reduceMul, Nat.reduceSub, Nat.reduceLT, Nat.reduceEqDiff, Int.reduceAdd, Int.reduceSub, Int.reduceLE, Int.reduceLT, Int.reduceEq, Int.reduceNe, Int.reduceToNat, Int.reduceNeg, reduceIte, reduceCtorEq, hc, hx, hy, encStrip, k3, not_decide]
            exact no (fun e => k3 (by rw [e])) _ (Hp.sub.refl h) (by simp [push_cast])
        · have e2 : (l[i].brk == m[i].brk) = false := by simp [k2]
          simp -implicitDefEqProofs (disch := omega) only [push_cast, wrap_i64, Nat.reduceAdd, Nat.reduceLeDiff, Nat.reduceMul, Nat.reduceSub, Nat.reduceLT, Nat.reduceEqDiff, Int.reduceAdd, Int.reduceSub, Int.reduceLE, Int.reduceLT, Int.reduceEq, Int.reduceNe, Int.reduceToNat, Int.reduceNeg, reduceIte, reduceCtorEq, hc, hx, hy, encStrip, e1, e2]
          exact no (fun e => k2 (by rw [e])) _ (Hp.sub.refl h) (by simp [push_cast])
      · simp -implicitDefEqProofs (disch := omega) only [push_cast, wrap_i64, Nat.reduceAdd, Nat.reduceLeDiff, Nat.reduceMul, Nat.reduceSub, Nat.reduceLT, Nat.reduceEqDiff, Int.reduceAdd, Int.reduceSub, Int.reduceLE, Int.reduceLT, Int.reduceEq, Int.reduceNe, Int.reduceToNat, Int.reduceNeg, reduceIte, reduceCtorEq, hc, hx, hy, encStrip, k1]
        exact no (fun e => k1 (by rw [e])) _ (Hp.sub.refl h) (by simp [push_cast])
    · have hc : ¬ ((i : Int) < (l.length : Int)) := by omega
      obtain rfl : i = l.length := by omega
      have hab : l = m := by
        rw [List.take_length, h3, List.take_length] at he; exact he
      simp -implicitDefEqProofs (disch := omega) only [push_cast, wrap_i64, Nat.reduceAdd, Nat.reduceLeDiff, Nat.reduceMul, Nat.reduceSub, Nat.reduceLT, Nat.reduceEqDiff, Int.reduceAdd, Int.reduceSub, Int.reduceLE, Int.reduceLT, Int.reduceEq, Int.reduceNe, Int.reduceToNat, Int.reduceNeg, reduceIte, reduceCtorEq, hc]
      refine retQ_ret (abool (decide (l = m))) h ?_ (Hp.sub.refl h) ⟨rfl, rfl⟩
      simp [push_cast, hab]
  · have hab : ¬ l = m := fun e => h3 (by rw [e])
    have h3' : ¬ (l.length : Int) = (m.length : Int) := by omega
    simp -implicitDefEqProofs (disch := omega) only [push_cast, wrap_i64, Nat.reduceAdd, Nat.reduceLeDiff, Nat.reduceMul, Nat.reduceSub, Nat.reduceLT, Nat.reduceEqDiff, Int.reduceAdd, Int.reduceSub, Int.reduceLE, Int.reduceLT, Int.reduceEq, Int.reduceNe, Int.reduceToNat, Int.reduceNeg, reduceIte, reduceCtorEq, ac_stylusref21_Same, h3']
    refine retQ_ret (abool (decide (l = m))) h ?_ (Hp.sub.refl h) ⟨rfl, rfl⟩
    simp [push_cast, hab]
end Go.Proofs.Ytdobeigblnpjhaa
