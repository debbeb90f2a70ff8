/- Pages: the walks of the functions that read alone. -/
import Derived.Test.YtdobeigblnpjhaaCodeA
import Derived.Test.YtdobeigblnpjhaaEval
import Derived.Test.YtdobeigblnpjhaaSp
namespace Go.Proofs.Ytdobeigblnpjhaa
open Go Go.Proofs.Ytdobeigblnpjhaa.AM
set_option maxRecDepth 100000
set_option linter.unusedSimpArgs false

theorem high_pure (l : List Strip) (hl : l.length + notesN l ≤ 1000000000000) : APure Try.prog n_pages_sheet_high [.isl 6 (l.map encStrip)] (aint (high l)) := by
  intro h
  refine enter_pages_sheet_high ?_
  simp -implicitDefEqProofs only [push_cast, Nat.reduceAdd, Nat.reduceLeDiff, Nat.reduceMul, Nat.reduceSub, Nat.reduceLT, Nat.reduceEqDiff, Int.reduceAdd, Int.reduceSub, Int.reduceLE, Int.reduceLT, Int.reduceEq, Int.reduceNe, Int.reduceToNat, Int.reduceNeg, reduceIte, reduceCtorEq, ac_pages_sheet_high]
  refine awp_loop (σ := Nat) (fun i => ⟨[.isl 6 (l.map encStrip), .any, .any, aint (i + notesN (l.take i)), aint (rule (l.take i)), .any, .any, .isl 6 (l.map encStrip), aint l.length, aint i] ++ List.replicate 17 .any, h⟩)
    (fun i => i ≤ l.length) (fun i => l.length - i) 0 (Retell.weak (by simp [Weak, rule, notesN, push_cast]) (Hp.sub.refl _)) (Nat.zero_le _) ?_
  intro i hi
  have hle := notesN_le l i
  by_cases hlt : i < l.length
  · have hx : l[i]? = some l[i] := List.getElem?_eq_getElem hlt
    have hc : ((i : Int) < (l.length : Int)) := by omega
    have hn := notesN_take l i hlt
    have hle2 := notesN_le l (i + 1)
    have hr := rule_take l i hlt
    simp -implicitDefEqProofs (disch := omega) only [push_cast, wrap_i64, Nat.reduceAdd, Nat.reduceLeDiff, Nat.reduceMul, Nat.reduceSub, Nat.reduceLT, Nat.reduceEqDiff, Int.reduceAdd, Int.reduceSub, Int.reduceLE, Int.reduceLT, Int.reduceEq, Int.reduceNe, Int.reduceToNat, Int.reduceNeg, reduceIte, reduceCtorEq, hc, hx, encStrip]
    intro b hb
    simp -implicitDefEqProofs (disch := omega) only [push_cast, wrap_i64, Nat.reduceAdd, Nat.reduceLeDiff, Nat.reduceMul, Nat.reduceSub, Nat.reduceLT, Nat.reduceEqDiff, Int.reduceAdd, Int.reduceSub, Int.reduceLE, Int.reduceLT, Int.reduceEq, Int.reduceNe, Int.reduceToNat, Int.reduceNeg, reduceIte, reduceCtorEq, encStrip, fork_cond]
    refine ⟨fun hpos => ?_, fun hpos => ?_⟩
    · rw [if_pos (by omega)] at hr
      refine ⟨i + 1, by omega, hlt, Retell.weak ?_ (((Hp.sub.refl h).upd _ hb).upd _ hb)⟩
      simp [Weak, push_cast, hn, hr]; omega
    · rw [if_neg (by omega)] at hr
      refine ⟨i + 1, by omega, hlt, Retell.weak ?_ (((Hp.sub.refl h).upd _ hb).upd _ hb)⟩
      simp [Weak, push_cast, hn, hr]; omega
  · have hc : ¬ ((i : Int) < (l.length : Int)) := by omega
    obtain rfl : i = l.length := by omega
    have hr := rule_le (l.take l.length)
    simp -implicitDefEqProofs (disch := omega) only [push_cast, wrap_i64, Nat.reduceAdd, Nat.reduceLeDiff, Nat.reduceMul, Nat.reduceSub, Nat.reduceLT, Nat.reduceEqDiff, Int.reduceAdd, Int.reduceSub, Int.reduceLE, Int.reduceLT, Int.reduceEq, Int.reduceNe, Int.reduceToNat, Int.reduceNeg, reduceIte, reduceCtorEq, hc]
    refine retQ_ret (aint (high l)) h ?_ (Hp.sub.refl h) ⟨rfl, rfl⟩
    simp [push_cast, high, List.take_length]

theorem refHigh_pure (l : List Strip) (hl : l.length + notesN l ≤ 1000000000000) : APure Try.prog n_stylusref22_High [.isl 6 (l.map encStrip)] (aint (high l)) := by
  intro h
  refine enter_stylusref22_High ?_
  simp -implicitDefEqProofs only [push_cast, Nat.reduceAdd, Nat.reduceLeDiff, Nat.reduceMul, Nat.reduceSub, Nat.reduceLT, Nat.reduceEqDiff, Int.reduceAdd, Int.reduceSub, Int.reduceLE, Int.reduceLT, Int.reduceEq, Int.reduceNe, Int.reduceToNat, Int.reduceNeg, reduceIte, reduceCtorEq, ac_stylusref22_High]
  refine awp_loop (σ := Nat) (fun i => ⟨[.isl 6 (l.map encStrip), .any, .any, aint i, aint (notesN (l.take i)), aint i] ++ List.replicate 23 .any, h⟩)
    (fun i => i ≤ l.length) (fun i => l.length - i) 0 (Retell.weak (by simp [Weak, rule, notesN, push_cast]) (Hp.sub.refl _)) (Nat.zero_le _) ?_
  intro i hi
  have hle := notesN_le l i
  by_cases hlt : i < l.length
  · have hx : l[i]? = some l[i] := List.getElem?_eq_getElem hlt
    have hc : ((i : Int) < (l.length : Int)) := by omega
    have hn := notesN_take l i hlt
    have hle2 := notesN_le l (i + 1)
    simp -implicitDefEqProofs (disch := omega) only [push_cast, wrap_i64, Nat.reduceAdd, Nat.reduceLeDiff, Nat.reduceMul, Nat.reduceSub, Nat.reduceLT, Nat.reduceEqDiff, Int.reduceAdd, Int.reduceSub, Int.reduceLE, Int.reduceLT, Int.reduceEq, Int.reduceNe, Int.reduceToNat, Int.reduceNeg, reduceIte, reduceCtorEq, hc, hx, encStrip]
    refine ⟨i + 1, by omega, hlt, Retell.weak ?_ (Hp.sub.refl h)⟩
    simp [Weak, push_cast, hn]
  · have hc : ¬ ((i : Int) < (l.length : Int)) := by omega
    obtain rfl : i = l.length := by omega
    simp -implicitDefEqProofs (disch := omega) only [push_cast, wrap_i64, Nat.reduceAdd, Nat.reduceLeDiff, Nat.reduceMul, Nat.reduceSub, Nat.reduceLT, Nat.reduceEqDiff, Int.reduceAdd, Int.reduceSub, Int.reduceLE, Int.reduceLT, Int.reduceEq, Int.reduceNe, Int.reduceToNat, Int.reduceNeg, reduceIte, reduceCtorEq, hc, fork_cond, List.take_length]
    have hh : high l = l.length + notesN l + (if 0 < notesN l then 1 else 0) := rfl
    refine ⟨fun hp => ?_, fun hp => ?_⟩
    · rw [if_pos (by omega)] at hh
      refine retQ_ret (aint (high l)) h ?_ (Hp.sub.refl h) ⟨rfl, rfl⟩
      simp [push_cast, hh]; omega
    · rw [if_neg (by omega)] at hh
      refine retQ_ret (aint (high l)) h ?_ (Hp.sub.refl h) ⟨rfl, rfl⟩
      simp [push_cast, hh]; omega

theorem last_pure (l : List Strip) (keep : Int) (hl : l.length ≤ 1000000000000) : APure Try.prog n_pages_sheet_last [.isl 6 (l.map encStrip), aint keep] (aint ((lastN l keep l.length : Int) - 1)) := by
  intro h
  refine enter_pages_sheet_last ?_
  simp -implicitDefEqProofs (disch := omega) only [push_cast, wrap_i64, Nat.reduceAdd, Nat.reduceLeDiff, Nat.reduceMul, Nat.reduceSub, Nat.reduceLT, Nat.reduceEqDiff, Int.reduceAdd, Int.reduceSub, Int.reduceLE, Int.reduceLT, Int.reduceEq, Int.reduceNe, Int.reduceToNat, Int.reduceNeg, reduceIte, reduceCtorEq, ac_pages_sheet_last]
  refine awp_loop (σ := Nat) (fun n => ⟨[.isl 6 (l.map encStrip), aint keep, .any, .any, .any, aint ((n : Int) - 1)] ++ List.replicate 15 .any, h⟩)
    (fun n => n ≤ l.length ∧ lastN l keep l.length = lastN l keep n) (fun n => n) l.length (Retell.weak (by simp [Weak, push_cast]) (Hp.sub.refl _)) ⟨Nat.le_refl _, rfl⟩ ?_
  rintro n ⟨hn, he⟩
  cases n with
  | zero =>
    have hc : ¬ ((0 : Int) ≤ ((0 : Nat) : Int) - 1) := by omega
    simp -implicitDefEqProofs (disch := omega) only [push_cast, wrap_i64, Nat.reduceAdd, Nat.reduceLeDiff, Nat.reduceMul, Nat.reduceSub, Nat.reduceLT, Nat.reduceEqDiff, Int.reduceAdd, Int.reduceSub, Int.reduceLE, Int.reduceLT, Int.reduceEq, Int.reduceNe, Int.reduceToNat, Int.reduceNeg, reduceIte, reduceCtorEq, hc]
    refine retQ_ret (aint ((lastN l keep l.length : Int) - 1)) h ?_ (Hp.sub.refl h) ⟨rfl, rfl⟩
    simp [push_cast, he, lastN]
  | succ n =>
    have hx : l[n]? = some l[n] := List.getElem?_eq_getElem hn
    have hi : (n : Int) + 1 - 1 = (n : Int) := by omega
    have hc' : ((0 : Int) ≤ (n : Int)) := by omega
    simp -implicitDefEqProofs (disch := omega) only [push_cast, wrap_i64, Nat.reduceAdd, Nat.reduceLeDiff, Nat.reduceMul, Nat.reduceSub, Nat.reduceLT, Nat.reduceEqDiff, Int.reduceAdd, Int.reduceSub, Int.reduceLE, Int.reduceLT, Int.reduceEq, Int.reduceNe, Int.reduceToNat, Int.reduceNeg, reduceIte, reduceCtorEq, hi, hc', hx, encStrip, fork_cond]
    refine ⟨fun hk => ?_, fun hk => ?_⟩
    · refine retQ_ret (aint ((lastN l keep l.length : Int) - 1)) h ?_ (Hp.sub.refl h) ⟨rfl, rfl⟩
      rw [he, lastN_yes hn hk]; simp [push_cast]
    · refine ⟨n, Nat.lt_succ_self _, ⟨by omega, by rw [he, lastN_no hn hk]⟩, Retell.weak ?_ (Hp.sub.refl h)⟩
      simp [Weak, push_cast]

theorem stay_pure (l : List Strip) (hl : l.length ≤ 1000000000000) : APure Try.prog n_stylusref22_Stay [.isl 6 (l.map encStrip)] (aint (stay l)) := by
  intro h
  refine enter_stylusref22_Stay ?_
  simp -implicitDefEqProofs (disch := omega) only [push_cast, wrap_i64, Nat.reduceAdd, Nat.reduceLeDiff, Nat.reduceMul, Nat.reduceSub, Nat.reduceLT, Nat.reduceEqDiff, Int.reduceAdd, Int.reduceSub, Int.reduceLE, Int.reduceLT, Int.reduceEq, Int.reduceNe, Int.reduceToNat, Int.reduceNeg, reduceIte, reduceCtorEq, ac_stylusref22_Stay]
  refine awp_loop (σ := Nat) (fun k => ⟨[.isl 6 (l.map encStrip), .any, .any, aint k] ++ List.replicate 22 .any, h⟩)
    (fun k => k ≤ 2 ∧ (0 < k → lastN l 0 l.length = 0) ∧ (1 < k → lastN l 1 l.length = 0)) (fun k => 2 - k) 0 (Retell.weak (by simp [Weak, push_cast]) (Hp.sub.refl _)) ⟨by omega, by omega, by omega⟩ ?_
  rintro k ⟨hk, h0, h1⟩
  by_cases hlt : k < 2
  · have hc : ((k : Int) < 2) := by omega
    simp -implicitDefEqProofs (disch := omega) only [push_cast, wrap_i64, Nat.reduceAdd, Nat.reduceLeDiff, Nat.reduceMul, Nat.reduceSub, Nat.reduceLT, Nat.reduceEqDiff, Int.reduceAdd, Int.reduceSub, Int.reduceLE, Int.reduceLT, Int.reduceEq, Int.reduceNe, Int.reduceToNat, Int.reduceNeg, reduceIte, reduceCtorEq, hc]
    refine awp_loop (σ := Nat) (fun n => ⟨[.isl 6 (l.map encStrip), .any, .any, aint k, aint n] ++ List.replicate 21 .any, h⟩)
      (fun n => n ≤ l.length ∧ lastN l k l.length = lastN l k n) (fun n => n) l.length (Retell.weak (by simp [Weak, push_cast]) (Hp.sub.refl _)) ⟨Nat.le_refl _, rfl⟩ ?_
    rintro n ⟨hn, he⟩
    cases n with
    | zero =>
      simp -implicitDefEqProofs (disch := omega) only [push_cast, wrap_i64, Nat.reduceAdd, Nat.reduceLeDiff, Nat.reduceMul, Nat.reduceSub, Nat.reduceLT, Nat.reduceEqDiff, Int.reduceAdd, Int.reduceSub, Int.reduceLE, Int.reduceLT, Int.reduceEq, Int.reduceNe, Int.reduceToNat, Int.reduceNeg, reduceIte, reduceCtorEq]
      refine ⟨k + 1, by omega, ⟨by omega, fun _ => ?_, fun _ => ?_⟩, Retell.weak ?_ (Hp.sub.refl h)⟩
      · rcases Nat.lt_or_ge 0 k with hp | hp
        · exact h0 hp
        · obtain rfl : k = 0 := by omega
          exact he
      · obtain rfl : k = 1 := by omega
        exact he
      · simp [Weak, push_cast]
    | succ n =>
      have hx : l[n]? = some l[n] := List.getElem?_eq_getElem hn
      have hi : (n : Int) + 1 - 1 = (n : Int) := by omega
      have hc' : ((0 : Int) < (n : Int) + 1) := by omega
      simp -implicitDefEqProofs (disch := omega) only [push_cast, wrap_i64, Nat.reduceAdd, Nat.reduceLeDiff, Nat.reduceMul, Nat.reduceSub, Nat.reduceLT, Nat.reduceEqDiff, Int.reduceAdd, Int.reduceSub, Int.reduceLE, Int.reduceLT, Int.reduceEq, Int.reduceNe, Int.reduceToNat, Int.reduceNeg, reduceIte, reduceCtorEq, hi, hc', hx, encStrip, fork_cond]
      refine ⟨fun hkk => ?_, fun hkk => ?_⟩
      · refine retQ_ret (aint (stay l)) h ?_ (Hp.sub.refl h) ⟨rfl, rfl⟩
        have e := he.trans (lastN_yes hn hkk)
        have hs : stay l = n + 1 := by
          unfold stay
          rcases Nat.lt_or_ge 0 k with hp | hp
          · obtain rfl : k = 1 := by omega
            rw [h0 hp, if_neg (by omega)]
            rw [show ((1 : Nat) : Int) = 1 from rfl] at e
            rw [e, if_pos (by omega)]
          · obtain rfl : k = 0 := by omega
            rw [show ((0 : Nat) : Int) = 0 from rfl] at e
            rw [e, if_pos (by omega)]
        simp [push_cast, hs]
      · refine ⟨n, Nat.lt_succ_self _, ⟨by omega, by rw [he, lastN_no hn hkk]⟩, Retell.weak ?_ (Hp.sub.refl h)⟩
        simp [Weak, push_cast]
  · obtain rfl : k = 2 := by omega
    simp -implicitDefEqProofs (disch := omega) only [push_cast, wrap_i64, Nat.reduceAdd, Nat.reduceLeDiff, Nat.reduceMul, Nat.reduceSub, Nat.reduceLT, Nat.reduceEqDiff, Int.reduceAdd, Int.reduceSub, Int.reduceLE, Int.reduceLT, Int.reduceEq, Int.reduceNe, Int.reduceToNat, Int.reduceNeg, reduceIte, reduceCtorEq]
    refine retQ_ret (aint (stay l)) h ?_ (Hp.sub.refl h) ⟨rfl, rfl⟩
    simp [push_cast, stay, h0 (by omega), h1 (by omega)]

theorem first_pure (l : List Strip) (H : Int) (hl : l.length + notesN l ≤ 1000000000000) : APure Try.prog n_stylusref22_First [.isl 6 (l.map encStrip), aint H] (.tup [aint (firstN l H 0).1, abool (firstN l H 0).2]) := by
  intro h
  refine enter_stylusref22_First ?_
  simp -implicitDefEqProofs (disch := omega) only [push_cast, wrap_i64, Nat.reduceAdd, Nat.reduceLeDiff, Nat.reduceMul, Nat.reduceSub, Nat.reduceLT, Nat.reduceEqDiff, Int.reduceAdd, Int.reduceSub, Int.reduceLE, Int.reduceLT, Int.reduceEq, Int.reduceNe, Int.reduceToNat, Int.reduceNeg, reduceIte, reduceCtorEq, ac_stylusref22_First]
  refine awp_loop (σ := Nat) (fun n => ⟨[.isl 6 (l.map encStrip), aint H, .any, .any, .any, .any, aint ((n : Int) + 1)] ++ List.replicate 30 .any, h⟩)
    (fun n => n ≤ l.length ∧ firstN l H 0 = firstN l H n) (fun n => l.length - n) 0 (Retell.weak (by simp [Weak, push_cast]) (Hp.sub.refl _)) ⟨Nat.zero_le _, rfl⟩ ?_
  rintro n ⟨hn, he⟩
  rw [he]
  by_cases hlt : n < l.length
  · have hx : l[n]? = some l[n] := List.getElem?_eq_getElem hlt
    have hc : ((n : Int) + 1 ≤ (l.length : Int)) := by omega
    have hi : (n : Int) + 1 - 1 = (n : Int) := by omega
    have hf : firstN l H n = if l[n].brk = true then (n + 1, false) else if 0 < n ∧ H < high (l.take (n + 1)) then (stay (l.take n), false) else firstN l H (n + 1) := by
      rw [firstN, dif_pos hlt]
    have e1 : ((n : Int) + 1).toNat = n + 1 := by omega
    have e2 : ((n : Int)).toNat = n := by omega
    simp -implicitDefEqProofs (disch := omega) only [push_cast, wrap_i64, Nat.reduceAdd, Nat.reduceLeDiff, Nat.reduceMul, Nat.reduceSub, Nat.reduceLT, Nat.reduceEqDiff, Int.reduceAdd, Int.reduceSub, Int.reduceLE, Int.reduceLT, Int.reduceEq, Int.reduceNe, Int.reduceToNat, Int.reduceNeg, reduceIte, reduceCtorEq, hc, hi, hx, encStrip]
    rw [fork_bool]
    refine ⟨fun hb => ?_, fun hb => ?_⟩
    · rw [if_pos hb] at hf
      simp -implicitDefEqProofs (disch := omega) only [push_cast, wrap_i64, Nat.reduceAdd, Nat.reduceLeDiff, Nat.reduceMul, Nat.reduceSub, Nat.reduceLT, Nat.reduceEqDiff, Int.reduceAdd, Int.reduceSub, Int.reduceLE, Int.reduceLT, Int.reduceEq, Int.reduceNe, Int.reduceToNat, Int.reduceNeg, reduceIte, reduceCtorEq]
      refine retQ_ret (.tup [aint (firstN l H n).1, abool (firstN l H n).2]) h ?_ (Hp.sub.refl h) ⟨rfl, rfl⟩
      simp [push_cast, hf]
    · rw [if_neg (by simp [hb])] at hf
      have hle := notesN_le l (n + 1)
      rcases Nat.eq_zero_or_pos n with rfl | hpos
      · rw [if_neg (by omega)] at hf
        simp -implicitDefEqProofs (disch := omega) only [push_cast, wrap_i64, Nat.reduceAdd, Nat.reduceLeDiff, Nat.reduceMul, Nat.reduceSub, Nat.reduceLT, Nat.reduceEqDiff, Int.reduceAdd, Int.reduceSub, Int.reduceLE, Int.reduceLT, Int.reduceEq, Int.reduceNe, Int.reduceToNat, Int.reduceNeg, reduceIte, reduceCtorEq]
        refine ⟨1, by omega, ⟨hlt, hf⟩, Retell.weak ?_ (Hp.sub.refl h)⟩
        simp [Weak, push_cast]
      · have h1 : ((1 : Int) < (n : Int) + 1) := by omega
        have h2 : ((0 : Int) ≤ (n : Int) + 1) := by omega
        have h3 : n + 1 ≤ l.length := hlt
        have h4 : n ≤ l.length := hn
        simp -implicitDefEqProofs (disch := omega) only [push_cast, wrap_i64, Nat.reduceAdd, Nat.reduceLeDiff, Nat.reduceMul, Nat.reduceSub, Nat.reduceLT, Nat.reduceEqDiff, Int.reduceAdd, Int.reduceSub, Int.reduceLE, Int.reduceLT, Int.reduceEq, Int.reduceNe, Int.reduceToNat, Int.reduceNeg, reduceIte, reduceCtorEq, h1, h2, h3, h4, hi, e1, e2, hx, ← List.map_take]
        refine pures_of _ (refHigh_pure (l.take (n + 1)) (by simp; omega)) ?_
        simp -implicitDefEqProofs (disch := omega) only [push_cast, wrap_i64, Nat.reduceAdd, Nat.reduceLeDiff, Nat.reduceMul, Nat.reduceSub, Nat.reduceLT, Nat.reduceEqDiff, Int.reduceAdd, Int.reduceSub, Int.reduceLE, Int.reduceLT, Int.reduceEq, Int.reduceNe, Int.reduceToNat, Int.reduceNeg, reduceIte, reduceCtorEq, h1, h4, fork_cond]
        refine ⟨fun hh => ?_, fun hh => ?_⟩
        · rw [if_pos ⟨hpos, hh⟩] at hf
          simp -implicitDefEqProofs (disch := omega) only [push_cast, wrap_i64, Nat.reduceAdd, Nat.reduceLeDiff, Nat.reduceMul, Nat.reduceSub, Nat.reduceLT, Nat.reduceEqDiff, Int.reduceAdd, Int.reduceSub, Int.reduceLE, Int.reduceLT, Int.reduceEq, Int.reduceNe, Int.reduceToNat, Int.reduceNeg, reduceIte, reduceCtorEq, h4, hi, e2, ← List.map_take]
          refine pures_of _ (stay_pure (l.take n) (by simp; omega)) ?_
          simp -implicitDefEqProofs (disch := omega) only [push_cast, wrap_i64, Nat.reduceAdd, Nat.reduceLeDiff, Nat.reduceMul, Nat.reduceSub, Nat.reduceLT, Nat.reduceEqDiff, Int.reduceAdd, Int.reduceSub, Int.reduceLE, Int.reduceLT, Int.reduceEq, Int.reduceNe, Int.reduceToNat, Int.reduceNeg, reduceIte, reduceCtorEq]
          refine retQ_ret (.tup [aint (firstN l H n).1, abool (firstN l H n).2]) h ?_ (Hp.sub.refl h) ⟨rfl, rfl⟩
          simp [push_cast, hf]
        · rw [if_neg (fun x => hh x.2)] at hf
          refine ⟨n + 1, by omega, ⟨hlt, hf⟩, Retell.weak ?_ (Hp.sub.refl h)⟩
          simp [Weak, push_cast]
  · obtain rfl : n = l.length := by omega
    have hc : ¬ ((l.length : Int) + 1 ≤ (l.length : Int)) := by omega
    have hf : firstN l H l.length = (l.length, true) := by rw [firstN, dif_neg (by omega)]
    simp -implicitDefEqProofs (disch := omega) only [push_cast, wrap_i64, Nat.reduceAdd, Nat.reduceLeDiff, Nat.reduceMul, Nat.reduceSub, Nat.reduceLT, Nat.reduceEqDiff, Int.reduceAdd, Int.reduceSub, Int.reduceLE, Int.reduceLT, Int.reduceEq, Int.reduceNe, Int.reduceToNat, Int.reduceNeg, reduceIte, reduceCtorEq, hc]
    refine retQ_ret (.tup [aint (firstN l H l.length).1, abool (firstN l H l.length).2]) h ?_ (Hp.sub.refl h) ⟨rfl, rfl⟩
    simp [push_cast, hf]

end Go.Proofs.Ytdobeigblnpjhaa
