/- Pages: the walks of the law. -/
import Derived.Test.YtdobeigblnpjhaaPuF
namespace Go.Proofs.Ytdobeigblnpjhaa
open Go Go.Proofs.Ytdobeigblnpjhaa.AM
set_option maxRecDepth 100000
set_option linter.unusedSimpArgs false
set_option maxHeartbeats 4000000

def stripOf (c : UInt8) : Strip := if (c.toNat : Int) = 98 then ⟨⟨[], 0, 0⟩, 0, true, []⟩ else ⟨⟨[], 0, 0⟩, IntKind.i64.wrap (IntKind.u8.wrap (c.toNat - 48)), false, []⟩

theorem strips_pure (s : ByteArray) (hs : s.size ≤ 1000) : APure Try.prog n_styluslaw22_strips [astr s] (.isl 6 ((s.data.toList.map stripOf).map encStrip)) := by
  intro h
  refine enter_styluslaw22_strips ?_
  simp -implicitDefEqProofs (disch := omega) only [push_cast, wrap_i64, Nat.reduceAdd, Nat.reduceLeDiff, Nat.reduceMul, Nat.reduceSub, Nat.reduceLT, Nat.reduceEqDiff, Int.reduceAdd, Int.reduceSub, Int.reduceLE, Int.reduceLT, Int.reduceEq, Int.reduceNe, Int.reduceToNat, Int.reduceNeg, reduceIte, reduceCtorEq, ac_styluslaw22_strips]
  have hsz : s.data.toList.length = s.size := by rw [Array.length_toList]; rfl
  refine awp_loop (σ := Nat × AV × Hp) (fun x => ⟨[astr s, .any, .any, x.2.1, aint x.1] ++ List.replicate 26 .any, x.2.2⟩)
    (fun x => x.1 ≤ s.size ∧ Acc h 6 (((s.data.toList.take x.1).map stripOf).map encStrip) x.2.1 x.2.2) (fun x => s.size - x.1) (0, anil, h) (Retell.weak (by simp [Weak, push_cast]) (Hp.sub.refl _)) ⟨Nat.zero_le _, by simpa using Acc.nil h 6⟩ ?_
  rintro ⟨i, x, h1⟩ ⟨hi, acc⟩
  simp only at hi acc ⊢
  by_cases hlt : i < s.size
  · have hlt' : i < s.data.toList.length := by omega
    have hc : ((i : Int) < (s.size : Int)) := by omega
    obtain ⟨c, hx, hcc⟩ : ∃ c, s[i]? = some c ∧ s.data.toList[i] = c := ⟨s[i], getElem?_pos s i hlt, rfl⟩
    have tk : ((s.data.toList.take (i + 1)).map stripOf).map encStrip = ((s.data.toList.take i).map stripOf).map encStrip ++ [encStrip (stripOf c)] := by
      rw [List.take_succ_eq_append_getElem hlt', List.map_append, List.map_append, hcc]; rfl
    by_cases h98 : (c.toNat : Int) = 98
    · have e1 := eq_true h98
      simp -implicitDefEqProofs (disch := omega) only [push_cast, wrap_i64, Nat.reduceAdd, Nat.reduceLeDiff, Nat.reduceMul, Nat.reduceSub, Nat.reduceLT, Nat.reduceEqDiff, Int.reduceAdd, Int.reduceSub, Int.reduceLE, Int.reduceLT, Int.reduceEq, Int.reduceNe, Int.reduceToNat, Int.reduceNeg, reduceIte, reduceCtorEq, hc, hlt, hx, e1]
      intro b5 hb5
      simp -implicitDefEqProofs (disch := omega) only [push_cast, wrap_i64, Nat.reduceAdd, Nat.reduceLeDiff, Nat.reduceMul, Nat.reduceSub, Nat.reduceLT, Nat.reduceEqDiff, Int.reduceAdd, Int.reduceSub, Int.reduceLE, Int.reduceLT, Int.reduceEq, Int.reduceNe, Int.reduceToNat, Int.reduceNeg, reduceIte, reduceCtorEq, Hp.upd_upd, e1]
      intro b28 hb28
      simp -implicitDefEqProofs (disch := omega) only [push_cast, wrap_i64, Nat.reduceAdd, Nat.reduceLeDiff, Nat.reduceMul, Nat.reduceSub, Nat.reduceLT, Nat.reduceEqDiff, Int.reduceAdd, Int.reduceSub, Int.reduceLE, Int.reduceLT, Int.reduceEq, Int.reduceNe, Int.reduceToNat, Int.reduceNeg, reduceIte, reduceCtorEq]
      refine appR_acc ((acc.new _ hb5).new _ hb28) rfl (by omega) (by simp) (by simp; omega) ?_
      intro x' h' acc4 _ _
      simp -implicitDefEqProofs (disch := omega) only [push_cast, wrap_i64, Nat.reduceAdd, Nat.reduceLeDiff, Nat.reduceMul, Nat.reduceSub, Nat.reduceLT, Nat.reduceEqDiff, Int.reduceAdd, Int.reduceSub, Int.reduceLE, Int.reduceLT, Int.reduceEq, Int.reduceNe, Int.reduceToNat, Int.reduceNeg, reduceIte, reduceCtorEq]
      obtain ⟨h5, rt5, acc5⟩ := acc4.cellNil (k := 0) (sz2 := 4) rfl
      obtain ⟨h6, rt6, acc6⟩ := acc5.cellNil (k := 5) (sz2 := 3) rfl
      refine awp_ghost _ (rt5.trans rt6) ?_
      simp -implicitDefEqProofs (disch := omega) only [push_cast, wrap_i64, Nat.reduceAdd, Nat.reduceLeDiff, Nat.reduceMul, Nat.reduceSub, Nat.reduceLT, Nat.reduceEqDiff, Int.reduceAdd, Int.reduceSub, Int.reduceLE, Int.reduceLT, Int.reduceEq, Int.reduceNe, Int.reduceToNat, Int.reduceNeg, reduceIte, reduceCtorEq]
      refine ⟨(i + 1, x', h6), by simp only; omega, ⟨hlt, ?_⟩, Retell.weak ?_ (Hp.sub.refl _)⟩
      · have er : encStrip (stripOf c) = [.isl 4 [], aint 0, aint 0, aint 0, abool true, .isl 3 []] := by
          simp [encStrip, stripOf, h98, aint, abool]
        rw [tk, er]
        exact acc6
      · simp [Weak, push_cast]
    · simp -implicitDefEqProofs (disch := omega) only [push_cast, wrap_i64, Nat.reduceAdd, Nat.reduceLeDiff, Nat.reduceMul, Nat.reduceSub, Nat.reduceLT, Nat.reduceEqDiff, Int.reduceAdd, Int.reduceSub, Int.reduceLE, Int.reduceLT, Int.reduceEq, Int.reduceNe, Int.reduceToNat, Int.reduceNeg, reduceIte, reduceCtorEq, hc, hlt, hx, h98]
      intro b5 hb5
      simp -implicitDefEqProofs (disch := omega) only [push_cast, wrap_i64, Nat.reduceAdd, Nat.reduceLeDiff, Nat.reduceMul, Nat.reduceSub, Nat.reduceLT, Nat.reduceEqDiff, Int.reduceAdd, Int.reduceSub, Int.reduceLE, Int.reduceLT, Int.reduceEq, Int.reduceNe, Int.reduceToNat, Int.reduceNeg, reduceIte, reduceCtorEq, Hp.upd_upd, h98, hlt, hx]
      intro b28 hb28
      simp -implicitDefEqProofs (disch := omega) only [push_cast, wrap_i64, Nat.reduceAdd, Nat.reduceLeDiff, Nat.reduceMul, Nat.reduceSub, Nat.reduceLT, Nat.reduceEqDiff, Int.reduceAdd, Int.reduceSub, Int.reduceLE, Int.reduceLT, Int.reduceEq, Int.reduceNe, Int.reduceToNat, Int.reduceNeg, reduceIte, reduceCtorEq]
      refine appR_acc ((acc.new _ hb5).new _ hb28) rfl (by omega) (by simp) (by simp; omega) ?_
      intro x' h' acc4 _ _
      simp -implicitDefEqProofs (disch := omega) only [push_cast, wrap_i64, Nat.reduceAdd, Nat.reduceLeDiff, Nat.reduceMul, Nat.reduceSub, Nat.reduceLT, Nat.reduceEqDiff, Int.reduceAdd, Int.reduceSub, Int.reduceLE, Int.reduceLT, Int.reduceEq, Int.reduceNe, Int.reduceToNat, Int.reduceNeg, reduceIte, reduceCtorEq]
      obtain ⟨h5, rt5, acc5⟩ := acc4.cellNil (k := 0) (sz2 := 4) rfl
      obtain ⟨h6, rt6, acc6⟩ := acc5.cellNil (k := 5) (sz2 := 3) rfl
      refine awp_ghost _ (rt5.trans rt6) ?_
      simp -implicitDefEqProofs (disch := omega) only [push_cast, wrap_i64, Nat.reduceAdd, Nat.reduceLeDiff, Nat.reduceMul, Nat.reduceSub, Nat.reduceLT, Nat.reduceEqDiff, Int.reduceAdd, Int.reduceSub, Int.reduceLE, Int.reduceLT, Int.reduceEq, Int.reduceNe, Int.reduceToNat, Int.reduceNeg, reduceIte, reduceCtorEq]
      refine ⟨(i + 1, x', h6), by simp only; omega, ⟨hlt, ?_⟩, Retell.weak ?_ (Hp.sub.refl _)⟩
      · have er : encStrip (stripOf c) = [.isl 4 [], aint 0, aint 0, aint (IntKind.i64.wrap (IntKind.u8.wrap (c.toNat - 48))), abool false, .isl 3 []] := by
          simp [encStrip, stripOf, h98, aint, abool]
        rw [tk, er]
        exact acc6
      · simp [Weak, push_cast]
  · have hc : ¬ ((i : Int) < (s.size : Int)) := by omega
    obtain rfl : i = s.size := by omega
    simp -implicitDefEqProofs (disch := omega) only [push_cast, wrap_i64, Nat.reduceAdd, Nat.reduceLeDiff, Nat.reduceMul, Nat.reduceSub, Nat.reduceLT, Nat.reduceEqDiff, Int.reduceAdd, Int.reduceSub, Int.reduceLE, Int.reduceLT, Int.reduceEq, Int.reduceNe, Int.reduceToNat, Int.reduceNeg, reduceIte, reduceCtorEq, hc]
    rw [List.take_of_length_le (by omega)] at acc
    obtain ⟨h', sh, hs⟩ := acc.freeze
    refine awp_ghost _ (Retell.slot (k := 3) rfl sh) ?_
    simp -implicitDefEqProofs (disch := omega) only [push_cast, wrap_i64, Nat.reduceAdd, Nat.reduceLeDiff, Nat.reduceMul, Nat.reduceSub, Nat.reduceLT, Nat.reduceEqDiff, Int.reduceAdd, Int.reduceSub, Int.reduceLE, Int.reduceLT, Int.reduceEq, Int.reduceNe, Int.reduceToNat, Int.reduceNeg, reduceIte, reduceCtorEq]
    refine retQ_ret (.isl 6 ((s.data.toList.map stripOf).map encStrip)) h ?_ hs ⟨rfl, rfl⟩
    simp [push_cast]
theorem fill_ne (l : List Strip) (H : Int) : fill l H ≠ [] := by
  cases hb : (firstN l H 0).2 with
  | true => rw [fill_all hb]; simp
  | false => rw [fill_cut hb]; simp

theorem fill_mem (H : Int) : ∀ (n : Nat) (l : List Strip), l.length ≤ n → ∀ p ∈ fill l H, p.length ≤ l.length ∧ ∀ x ∈ p, x ∈ l
  | n, l, hn, p, hp => by
    cases hb : (firstN l H 0).2 with
    | true =>
      rw [fill_all hb] at hp
      simp at hp; subst hp
      exact ⟨by simp; omega, fun x hx => List.mem_of_mem_take hx⟩
    | false =>
      have h1 := firstN_pos l H 0 (firstN_more hb)
      have h2 := firstN_le l H 0
      rw [fill_cut hb, List.mem_cons] at hp
      rcases hp with rfl | hp
      · exact ⟨by simp; omega, fun x hx => List.mem_of_mem_take hx⟩
      · match n, hn with
        | 0, hn => omega
        | n + 1, hn =>
          obtain ⟨q1, q2⟩ := fill_mem H n (l.drop (firstN l H 0).1) (by simp; omega) p hp
          exact ⟨by simp at q1; omega, fun x hx => List.mem_of_mem_drop (q2 x hx)⟩

def Ok1 (x : Strip) : Prop := x.line.spots.length ≤ 10000000000000 ∧ x.notes.length ≤ 10000000000000 ∧ ∀ y ∈ x.notes, y.spots.length ≤ 10000000000000

theorem PagesAt.at : ∀ {xs : List AV} {ps : List (List Strip)} {h : Hp} {i : Nat} {x : AV} {p : List Strip}, PagesAt h xs ps → xs[i]? = some x → ps[i]? = some p → SlOf h x p
  | x :: xs, p :: ps, h, 0, y, q, k, h1, h2 => by
    simp at h1 h2; subst h1 h2
    simp only [PagesAt] at k
    rcases k with ⟨a, b, _⟩ | ⟨b, k1, k2, _⟩
    · exact .inl ⟨a, b⟩
    · exact .inr ⟨b, [], k1, by simpa using k2⟩
  | x :: xs, p :: ps, h, i + 1, y, q, k, h1, h2 => by
    simp only [PagesAt] at k
    rcases k with ⟨a, b, k⟩ | ⟨b, k1, k2, k3⟩
    · exact PagesAt.at k (by simpa using h1) (by simpa using h2)
    · refine (PagesAt.at k3 (by simpa using h1) (by simpa using h2)).sub fun b' o q => ?_
      by_cases e : b' = b
      · subst e; simp [Hp.del] at q
      · rwa [Hp.del_ne _ e] at q
  | [], _ :: _, _, _, _, _, k, _, _ => by simp [PagesAt] at k
  | _ :: _, [], _, _, _, _, k, _, _ => by simp [PagesAt] at k
  | [], [], _, _, _, _, _, h1, _ => by simp at h1

def bytesOf (s : ByteArray) : List Strip := s.data.toList.map stripOf

theorem notesN_zero : ∀ (l : List Strip), (∀ x ∈ l, x.notes = []) → notesN l = 0
  | [], _ => rfl
  | x :: l, h => by
    have h1 := h x (by simp)
    have h2 := notesN_zero l (fun y hy => h y (by simp [hy]))
    unfold notesN at h2 ⊢
    rw [List.map_cons, List.sum_cons, h1, h2]; rfl

theorem filled_pure (s : ByteArray) (hs : s.size ≤ 1000) (H : Int) (want : List ByteArray) (hw : want.length ≤ 1000) (hwe : ∀ w ∈ want, w.size ≤ 1000) :
    APure Try.prog n_styluslaw22_filled [astr s, aint H, .isl 1 (want.map fun w => [astr w])] (abool (decide (fill (bytesOf s) H = want.map bytesOf))) := by
  intro h
  refine enter_styluslaw22_filled ?_
  have hlen : (bytesOf s).length ≤ 1000 := by unfold bytesOf; rw [List.length_map, Array.length_toList]; exact hs
  have hempty : ∀ x ∈ bytesOf s, x.line.spots = [] ∧ x.notes = [] := by
    intro x hx
    obtain ⟨c, _, rfl⟩ := List.mem_map.1 hx
    unfold stripOf; split <;> exact ⟨rfl, rfl⟩
  have hnotes : notesN (bytesOf s) = 0 := notesN_zero _ fun x hx => (hempty x hx).2
  simp -implicitDefEqProofs (disch := omega) only [push_cast, wrap_i64, Nat.reduceAdd, Nat.reduceLeDiff, Nat.reduceMul, Nat.reduceSub, Nat.reduceLT, Nat.reduceEqDiff, Int.reduceAdd, Int.reduceSub, Int.reduceLE, Int.reduceLT, Int.reduceEq, Int.reduceNe, Int.reduceToNat, Int.reduceNeg, reduceIte, reduceCtorEq, ac_styluslaw22_filled]
  refine pures_of _ (strips_pure s hs) ?_
  simp -implicitDefEqProofs (disch := omega) only [push_cast, wrap_i64, Nat.reduceAdd, Nat.reduceLeDiff, Nat.reduceMul, Nat.reduceSub, Nat.reduceLT, Nat.reduceEqDiff, Int.reduceAdd, Int.reduceSub, Int.reduceLE, Int.reduceLT, Int.reduceEq, Int.reduceNe, Int.reduceToNat, Int.reduceNeg, reduceIte, reduceCtorEq]
  refine calls_of (fill_calls h (bytesOf s) H (by omega)) ?_
  rintro e h1 ⟨x, rfl, hsub, xs, hpg, hacc⟩
  have hne := fill_ne (bytesOf s) H
  have hxl := hpg.length
  have hfl := fill_length H _ (bytesOf s) (Nat.le_refl _)
  rcases hacc.2 with ⟨e1, _⟩ | ⟨bo, hb0, rfl, hbo⟩
  · exfalso
    rw [List.map_eq_nil_iff] at e1
    rw [e1] at hxl
    exact hne (List.length_eq_zero_iff.1 hxl.symm)
  by_cases h3 : xs.length = want.length
  · have e3 : ((xs.length : Int) = (want.length : Int)) = True := eq_true (by omega)
    simp -implicitDefEqProofs (disch := omega) only [push_cast, wrap_i64, Nat.reduceAdd, Nat.reduceLeDiff, Nat.reduceMul, Nat.reduceSub, Nat.reduceLT, Nat.reduceEqDiff, Int.reduceAdd, Int.reduceSub, Int.reduceLE, Int.reduceLT, Int.reduceEq, Int.reduceNe, Int.reduceToNat, Int.reduceNeg, reduceIte, reduceCtorEq, backK, e3, List.length_map]
    refine awp_loop (σ := Nat) (fun i => ⟨[.any, .any, .isl 1 (want.map fun w => [astr w]), .any, .any, .any, .any, .osl bo 1 0 xs.length, aint i] ++ List.replicate 26 .any, h1⟩)
      (fun i => i ≤ xs.length ∧ (fill (bytesOf s) H).take i = (want.map bytesOf).take i) (fun i => xs.length - i) 0 (Retell.weak (by simp [Weak, push_cast]) (Hp.sub.refl _)) ⟨Nat.zero_le _, by simp⟩ ?_
    rintro i ⟨hi, he⟩
    by_cases hlt : i < xs.length
    · have hx : (xs.map fun y => [y])[i]? = some [xs[i]] := by simp [hlt]
      have hlw : i < want.length := by omega
      have hlf : i < (fill (bytesOf s) H).length := by omega
      have hy : want[i]? = some want[i] := List.getElem?_eq_getElem hlw
      have hc : ((i : Int) < (xs.length : Int)) := by omega
      simp -implicitDefEqProofs (disch := omega) only [push_cast, wrap_i64, Nat.reduceAdd, Nat.reduceLeDiff, Nat.reduceMul, Nat.reduceSub, Nat.reduceLT, Nat.reduceEqDiff, Int.reduceAdd, Int.reduceSub, Int.reduceLE, Int.reduceLT, Int.reduceEq, Int.reduceNe, Int.reduceToNat, Int.reduceNeg, reduceIte, reduceCtorEq, hc, hx, hy, hbo, hlt]
      refine pures_of _ (strips_pure want[i] (hwe _ (List.getElem_mem hlw))) ?_
      simp -implicitDefEqProofs (disch := omega) only [push_cast, wrap_i64, Nat.reduceAdd, Nat.reduceLeDiff, Nat.reduceMul, Nat.reduceSub, Nat.reduceLT, Nat.reduceEqDiff, Int.reduceAdd, Int.reduceSub, Int.reduceLE, Int.reduceLT, Int.reduceEq, Int.reduceNe, Int.reduceToNat, Int.reduceNeg, reduceIte, reduceCtorEq]
      have hmem := fill_mem H _ (bytesOf s) (Nat.le_refl _) _ (List.getElem_mem hlf)
      have hok : ∀ x ∈ (fill (bytesOf s) H)[i], x.line.spots.length ≤ 10000000000000 ∧ x.notes.length ≤ 10000000000000 ∧ ∀ y ∈ x.notes, y.spots.length ≤ 10000000000000 := fun x q => by
        obtain ⟨q1, q2⟩ := hempty x (hmem.2 x q)
        rw [q1, q2]; simp
      have hsl : SlOf h1 xs[i] (fill (bytesOf s) H)[i] := hpg.at (List.getElem?_eq_getElem hlt) (List.getElem?_eq_getElem hlf)
      refine calls_lent _ (same21_pure (fill (bytesOf s) H)[i] (bytesOf want[i]) (by omega) hok) rfl ⟨hsl.lent, Lent.refl _ _, trivial⟩ ?_
      have hlw' : i < (want.map bytesOf).length := by simpa using hlw
      simp -implicitDefEqProofs (disch := omega) only [push_cast, wrap_i64, Nat.reduceAdd, Nat.reduceLeDiff, Nat.reduceMul, Nat.reduceSub, Nat.reduceLT, Nat.reduceEqDiff, Int.reduceAdd, Int.reduceSub, Int.reduceLE, Int.reduceLT, Int.reduceEq, Int.reduceNe, Int.reduceToNat, Int.reduceNeg, reduceIte, reduceCtorEq, not_decide, fork_cond]
      refine ⟨fun hn => ?_, fun hn => ?_⟩
      · have hab : ¬ fill (bytesOf s) H = want.map bytesOf := fun e => hn (by simp [e])
        refine retQ_ret (abool (decide (fill (bytesOf s) H = want.map bytesOf))) h ?_ hsub ⟨rfl, rfl⟩
        simp [push_cast, hab]
      · refine ⟨i + 1, by omega, ⟨hlt, (take_eq_succ hlf hlw').2 ⟨he, by simpa using hn⟩⟩, Retell.weak ?_ (Hp.sub.refl _)⟩
        simp [Weak, push_cast]
    · have hc : ¬ ((i : Int) < (xs.length : Int)) := by omega
      obtain rfl : i = xs.length := by omega
      have hab : fill (bytesOf s) H = want.map bytesOf := by
        rwa [List.take_of_length_le (by omega), List.take_of_length_le (by simp; omega)] at he
      simp -implicitDefEqProofs (disch := omega) only [push_cast, wrap_i64, Nat.reduceAdd, Nat.reduceLeDiff, Nat.reduceMul, Nat.reduceSub, Nat.reduceLT, Nat.reduceEqDiff, Int.reduceAdd, Int.reduceSub, Int.reduceLE, Int.reduceLT, Int.reduceEq, Int.reduceNe, Int.reduceToNat, Int.reduceNeg, reduceIte, reduceCtorEq, hc]
      refine retQ_ret (abool (decide (fill (bytesOf s) H = want.map bytesOf))) h ?_ hsub ⟨rfl, rfl⟩
      simp [push_cast, hab]
  · have hab : ¬ fill (bytesOf s) H = want.map bytesOf := fun e => h3 (by rw [hxl, e]; simp)
    have h3' : ¬ (xs.length : Int) = (want.length : Int) := by omega
    simp -implicitDefEqProofs (disch := omega) only [push_cast, wrap_i64, Nat.reduceAdd, Nat.reduceLeDiff, Nat.reduceMul, Nat.reduceSub, Nat.reduceLT, Nat.reduceEqDiff, Int.reduceAdd, Int.reduceSub, Int.reduceLE, Int.reduceLT, Int.reduceEq, Int.reduceNe, Int.reduceToNat, Int.reduceNeg, reduceIte, reduceCtorEq, backK, h3', List.length_map]
    refine retQ_ret (abool (decide (fill (bytesOf s) H = want.map bytesOf))) h ?_ hsub ⟨rfl, rfl⟩
    simp [push_cast, hab]
/-- The pages by a count, for examples. -/
def firstF (l : List Strip) (H : Int) : Nat → Nat → Nat × Bool
  | 0, _ => (l.length, true)
  | f + 1, n => match l[n]? with
    | some x => if x.brk = true then (n + 1, false) else if 0 < n ∧ H < high (l.take (n + 1)) then (stay (l.take n), false) else firstF l H f (n + 1)
    | none => (l.length, true)
theorem firstF_eq (l : List Strip) (H : Int) : ∀ (f n : Nat), l.length - n ≤ f → firstN l H n = firstF l H f n
  | 0, n, h => by rw [firstN, dif_neg (by omega)]; rfl
  | f + 1, n, h => by
    rw [firstN]
    simp only [firstF]
    by_cases hlt : n < l.length
    · rw [dif_pos hlt, List.getElem?_eq_getElem hlt]
      simp only
      rw [firstF_eq l H f (n + 1) (by omega)]
    · rw [dif_neg hlt, List.getElem?_eq_none (by omega)]
def fillF (H : Int) : Nat → List Strip → List (List Strip)
  | 0, l => [l.take (firstF l H l.length 0).1]
  | f + 1, l => match firstF l H l.length 0 with
    | (n, true) => [l.take n]
    | (n, false) => l.take n :: fillF H f (l.drop n)
theorem fill_eq (H : Int) : ∀ (f : Nat) (l : List Strip), l.length ≤ f → fill l H = fillF H f l
  | 0, l, h => by
    have e : (firstN l H 0).2 = true := by rw [firstN, dif_neg (by omega)]
    rw [fill_all e, fillF, firstF_eq l H l.length 0 (by omega)]
  | f + 1, l, h => by
    have e := firstF_eq l H l.length 0 (by omega)
    simp only [fillF]
    cases hb : (firstN l H 0).2 with
    | true =>
      rw [fill_all hb, e]
      rw [e] at hb
      split <;> rename_i e2 <;> simp [e2] at hb ⊢
    | false =>
      have h1 := firstN_pos l H 0 (firstN_more hb)
      rw [fill_cut hb, fill_eq H f _ (by simp; omega), e]
      rw [e] at hb
      split <;> rename_i e2 <;> simp [e2] at hb ⊢

theorem filled_calls {K : St → Prop} {X : AV → Hp → Prop} {d : Option Nat} {tm : List AV} {h : Hp} {b n : Nat} (s : ByteArray) (H : Int) (want : List ByteArray) (hb : h b = some ⟨1, want.map fun w => [astr w]⟩) (hn : n = want.length) (hs : s.size ≤ 1000) (hw : want.length ≤ 1000)
    (hwe : ∀ w ∈ want, w.size ≤ 1000) (hv : fill (bytesOf s) H = want.map bytesOf) (hk : K ⟨put tm d (.val (.bool true)), h⟩) : calls Try.prog K X d tm h n_styluslaw22_filled [astr s, aint H, .osl b 1 0 n] := by
  subst hn
  have hp := filled_pure s hs H want hw hwe
  rw [decide_eq_true hv] at hp
  have hl : Lent h (.osl b 1 0 want.length) (.isl 1 (want.map fun w => [astr w])) := by
    have := Lent.osl (off := 0) (len := want.length) hb rfl (by simp)
    simpa [List.take_of_length_le] using this
  exact calls_lent _ hp rfl ⟨Lent.refl _ _, Lent.refl _ _, hl, trivial⟩ hk

theorem awake_pure : APure Try.prog n_styluslaw22_awake [] (abool true) := by
  intro h
  refine enter_styluslaw22_awake ?_
  simp -implicitDefEqProofs (disch := omega) only [push_cast, wrap_i64, Nat.reduceAdd, Nat.reduceLeDiff, Nat.reduceMul, Nat.reduceSub, Nat.reduceLT, Nat.reduceEqDiff, Int.reduceAdd, Int.reduceSub, Int.reduceLE, Int.reduceLT, Int.reduceEq, Int.reduceNe, Int.reduceToNat, Int.reduceNeg, reduceIte, reduceCtorEq, ac_styluslaw22_awake]
  intro b0 hb0
  simp -implicitDefEqProofs (disch := omega) only [push_cast, wrap_i64, Nat.reduceAdd, Nat.reduceLeDiff, Nat.reduceMul, Nat.reduceSub, Nat.reduceLT, Nat.reduceEqDiff, Int.reduceAdd, Int.reduceSub, Int.reduceLE, Int.reduceLT, Int.reduceEq, Int.reduceNe, Int.reduceToNat, Int.reduceNeg, reduceIte, reduceCtorEq]
  refine filled_calls (⟨#[48, 48, 48]⟩) 2 [⟨#[48, 48]⟩, ⟨#[48]⟩] (Hp.upd_same _ _ _) (by decide) (by decide) (by decide) (by decide) (by rw [fill_eq _ _ _ (Nat.le_refl _)]; decide) ?_
  simp -implicitDefEqProofs (disch := omega) only [push_cast, wrap_i64, Nat.reduceAdd, Nat.reduceLeDiff, Nat.reduceMul, Nat.reduceSub, Nat.reduceLT, Nat.reduceEqDiff, Int.reduceAdd, Int.reduceSub, Int.reduceLE, Int.reduceLT, Int.reduceEq, Int.reduceNe, Int.reduceToNat, Int.reduceNeg, reduceIte, reduceCtorEq]
  intro b1 hb1
  simp -implicitDefEqProofs (disch := omega) only [push_cast, wrap_i64, Nat.reduceAdd, Nat.reduceLeDiff, Nat.reduceMul, Nat.reduceSub, Nat.reduceLT, Nat.reduceEqDiff, Int.reduceAdd, Int.reduceSub, Int.reduceLE, Int.reduceLT, Int.reduceEq, Int.reduceNe, Int.reduceToNat, Int.reduceNeg, reduceIte, reduceCtorEq]
  refine filled_calls (⟨#[48, 49, 48]⟩) 2 [⟨#[48]⟩, ⟨#[49, 48]⟩] (Hp.upd_same _ _ _) (by decide) (by decide) (by decide) (by decide) (by rw [fill_eq _ _ _ (Nat.le_refl _)]; decide) ?_
  simp -implicitDefEqProofs (disch := omega) only [push_cast, wrap_i64, Nat.reduceAdd, Nat.reduceLeDiff, Nat.reduceMul, Nat.reduceSub, Nat.reduceLT, Nat.reduceEqDiff, Int.reduceAdd, Int.reduceSub, Int.reduceLE, Int.reduceLT, Int.reduceEq, Int.reduceNe, Int.reduceToNat, Int.reduceNeg, reduceIte, reduceCtorEq]
  intro b2 hb2
  simp -implicitDefEqProofs (disch := omega) only [push_cast, wrap_i64, Nat.reduceAdd, Nat.reduceLeDiff, Nat.reduceMul, Nat.reduceSub, Nat.reduceLT, Nat.reduceEqDiff, Int.reduceAdd, Int.reduceSub, Int.reduceLE, Int.reduceLT, Int.reduceEq, Int.reduceNe, Int.reduceToNat, Int.reduceNeg, reduceIte, reduceCtorEq]
  refine filled_calls (⟨#[49, 50, 48]⟩) 2 [⟨#[49]⟩, ⟨#[50, 48]⟩] (Hp.upd_same _ _ _) (by decide) (by decide) (by decide) (by decide) (by rw [fill_eq _ _ _ (Nat.le_refl _)]; decide) ?_
  simp -implicitDefEqProofs (disch := omega) only [push_cast, wrap_i64, Nat.reduceAdd, Nat.reduceLeDiff, Nat.reduceMul, Nat.reduceSub, Nat.reduceLT, Nat.reduceEqDiff, Int.reduceAdd, Int.reduceSub, Int.reduceLE, Int.reduceLT, Int.reduceEq, Int.reduceNe, Int.reduceToNat, Int.reduceNeg, reduceIte, reduceCtorEq]
  intro b3 hb3
  simp -implicitDefEqProofs (disch := omega) only [push_cast, wrap_i64, Nat.reduceAdd, Nat.reduceLeDiff, Nat.reduceMul, Nat.reduceSub, Nat.reduceLT, Nat.reduceEqDiff, Int.reduceAdd, Int.reduceSub, Int.reduceLE, Int.reduceLT, Int.reduceEq, Int.reduceNe, Int.reduceToNat, Int.reduceNeg, reduceIte, reduceCtorEq]
  refine filled_calls (⟨#[98, 98, 48]⟩) 2 [⟨#[98]⟩, ⟨#[98]⟩, ⟨#[48]⟩] (Hp.upd_same _ _ _) (by decide) (by decide) (by decide) (by decide) (by rw [fill_eq _ _ _ (Nat.le_refl _)]; decide) ?_
  simp -implicitDefEqProofs (disch := omega) only [push_cast, wrap_i64, Nat.reduceAdd, Nat.reduceLeDiff, Nat.reduceMul, Nat.reduceSub, Nat.reduceLT, Nat.reduceEqDiff, Int.reduceAdd, Int.reduceSub, Int.reduceLE, Int.reduceLT, Int.reduceEq, Int.reduceNe, Int.reduceToNat, Int.reduceNeg, reduceIte, reduceCtorEq]
  intro b4 hb4
  simp -implicitDefEqProofs (disch := omega) only [push_cast, wrap_i64, Nat.reduceAdd, Nat.reduceLeDiff, Nat.reduceMul, Nat.reduceSub, Nat.reduceLT, Nat.reduceEqDiff, Int.reduceAdd, Int.reduceSub, Int.reduceLE, Int.reduceLT, Int.reduceEq, Int.reduceNe, Int.reduceToNat, Int.reduceNeg, reduceIte, reduceCtorEq]
  refine filled_calls (⟨#[]⟩) 2 [⟨#[]⟩] (Hp.upd_same _ _ _) (by decide) (by decide) (by decide) (by decide) (by rw [fill_eq _ _ _ (Nat.le_refl _)]; decide) ?_
  simp -implicitDefEqProofs (disch := omega) only [push_cast, wrap_i64, Nat.reduceAdd, Nat.reduceLeDiff, Nat.reduceMul, Nat.reduceSub, Nat.reduceLT, Nat.reduceEqDiff, Int.reduceAdd, Int.reduceSub, Int.reduceLE, Int.reduceLT, Int.reduceEq, Int.reduceNe, Int.reduceToNat, Int.reduceNeg, reduceIte, reduceCtorEq]
  intro b5 hb5
  simp -implicitDefEqProofs (disch := omega) only [push_cast, wrap_i64, Nat.reduceAdd, Nat.reduceLeDiff, Nat.reduceMul, Nat.reduceSub, Nat.reduceLT, Nat.reduceEqDiff, Int.reduceAdd, Int.reduceSub, Int.reduceLE, Int.reduceLT, Int.reduceEq, Int.reduceNe, Int.reduceToNat, Int.reduceNeg, reduceIte, reduceCtorEq]
  refine filled_calls (⟨#[50, 50, 50]⟩) 1 [⟨#[50]⟩, ⟨#[50]⟩, ⟨#[50]⟩] (Hp.upd_same _ _ _) (by decide) (by decide) (by decide) (by decide) (by rw [fill_eq _ _ _ (Nat.le_refl _)]; decide) ?_
  simp -implicitDefEqProofs (disch := omega) only [push_cast, wrap_i64, Nat.reduceAdd, Nat.reduceLeDiff, Nat.reduceMul, Nat.reduceSub, Nat.reduceLT, Nat.reduceEqDiff, Int.reduceAdd, Int.reduceSub, Int.reduceLE, Int.reduceLT, Int.reduceEq, Int.reduceNe, Int.reduceToNat, Int.reduceNeg, reduceIte, reduceCtorEq]
  exact retQ_ret (abool true) h rfl (sub6 hb0 hb1 hb2 hb3 hb4 hb5) ⟨rfl, rfl⟩

def Small (l : List Strip) : Prop := l.length ≤ 60 ∧ ∀ x ∈ l, x.notes.length ≤ 12

theorem notesN_small {l : List Strip} (h : ∀ x ∈ l, x.notes.length ≤ 12) : notesN l ≤ 12 * l.length := by
  induction l with
  | nil => simp [notesN]
  | cons x l ih =>
    have h1 := h x (by simp)
    have h2 := ih fun y hy => h y (by simp [hy])
    unfold notesN at h2 ⊢
    rw [List.map_cons, List.sum_cons, List.length_cons]
    omega

/-- The law: any strips. -/
theorem law_calls1 (l : List Strip) (H : Int) (hl : l.length ≤ 10000000000000) (hn : ∀ x ∈ l, x.notes.length ≤ 10000000000000) (hs : ∀ x ∈ l, StripOk x) :
    ACalls Try.prog n_styluslaw22_PagesFill [.isl 6 (l.map encStrip), aint H] (fun _ => none) fun e _ => e = .ret (abool true) := by
  refine enter_styluslaw22_PagesFill ?_
  have hok1 : ∀ x ∈ l, x.line.spots.length ≤ 10000000000000 ∧ x.notes.length ≤ 10000000000000 ∧ ∀ y ∈ x.notes, y.spots.length ≤ 10000000000000 := fun x q => by
    obtain ⟨q1, q2, q3⟩ := hs x q
    unfold LineOk at q1 q3
    exact ⟨by omega, by omega, fun y qy => by have := q3 y qy; omega⟩
  by_cases h60 : (60 : Int) < (l.length : Int)
  · have e1 := eq_true h60
    simp -implicitDefEqProofs (disch := omega) only [push_cast, wrap_i64, Nat.reduceAdd, Nat.reduceLeDiff, Nat.reduceMul, Nat.reduceSub, Nat.reduceLT, Nat.reduceEqDiff, Int.reduceAdd, Int.reduceSub, Int.reduceLE, Int.reduceLT, Int.reduceEq, Int.reduceNe, Int.reduceToNat, Int.reduceNeg, reduceIte, reduceCtorEq, ac_styluslaw22_PagesFill, e1]
    refine pures_of _ awake_pure ?_
    simp -implicitDefEqProofs (disch := omega) only [push_cast, wrap_i64, Nat.reduceAdd, Nat.reduceLeDiff, Nat.reduceMul, Nat.reduceSub, Nat.reduceLT, Nat.reduceEqDiff, Int.reduceAdd, Int.reduceSub, Int.reduceLE, Int.reduceLT, Int.reduceEq, Int.reduceNe, Int.reduceToNat, Int.reduceNeg, reduceIte, reduceCtorEq]
    exact retQ_ret (abool true) _ rfl (Hp.sub.refl _) rfl
  · simp -implicitDefEqProofs (disch := omega) only [push_cast, wrap_i64, Nat.reduceAdd, Nat.reduceLeDiff, Nat.reduceMul, Nat.reduceSub, Nat.reduceLT, Nat.reduceEqDiff, Int.reduceAdd, Int.reduceSub, Int.reduceLE, Int.reduceLT, Int.reduceEq, Int.reduceNe, Int.reduceToNat, Int.reduceNeg, reduceIte, reduceCtorEq, ac_styluslaw22_PagesFill, h60]
    refine awp_loop (σ := Nat) (fun i => ⟨[.isl 6 (l.map encStrip), aint H, .any, .any, .any, aint i] ++ List.replicate 61 .any, fun _ => none⟩)
      (fun i => i ≤ l.length ∧ ∀ x ∈ l.take i, x.notes.length ≤ 12) (fun i => l.length - i) 0 (Retell.weak (by simp [Weak, push_cast]) (Hp.sub.refl _)) ⟨Nat.zero_le _, by simp⟩ ?_
    rintro i ⟨hi, hall⟩
    by_cases hlt : i < l.length
    · have hx : l[i]? = some l[i] := List.getElem?_eq_getElem hlt
      have hc : ((i : Int) < (l.length : Int)) := by omega
      have hni := hn _ (List.getElem_mem hlt)
      simp -implicitDefEqProofs (disch := omega) only [push_cast, wrap_i64, Nat.reduceAdd, Nat.reduceLeDiff, Nat.reduceMul, Nat.reduceSub, Nat.reduceLT, Nat.reduceEqDiff, Int.reduceAdd, Int.reduceSub, Int.reduceLE, Int.reduceLT, Int.reduceEq, Int.reduceNe, Int.reduceToNat, Int.reduceNeg, reduceIte, reduceCtorEq, hc, hx, encStrip, fork_cond]
      refine ⟨fun h12 => ?_, fun h12 => ?_⟩
      · refine pures_of _ awake_pure ?_
        simp -implicitDefEqProofs (disch := omega) only [push_cast, wrap_i64, Nat.reduceAdd, Nat.reduceLeDiff, Nat.reduceMul, Nat.reduceSub, Nat.reduceLT, Nat.reduceEqDiff, Int.reduceAdd, Int.reduceSub, Int.reduceLE, Int.reduceLT, Int.reduceEq, Int.reduceNe, Int.reduceToNat, Int.reduceNeg, reduceIte, reduceCtorEq]
        exact retQ_ret (abool true) _ rfl (Hp.sub.refl _) rfl
      · refine ⟨i + 1, by omega, ⟨hlt, fun x q => ?_⟩, Retell.weak ?_ (Hp.sub.refl _)⟩
        · rw [List.take_succ_eq_append_getElem hlt, List.mem_append, List.mem_singleton] at q
          rcases q with q | rfl
          · exact hall x q
          · omega
        · simp [Weak, push_cast]
    · have hc : ¬ ((i : Int) < (l.length : Int)) := by omega
      obtain rfl : i = l.length := by omega
      rw [List.take_length] at hall
      have hnn := notesN_small hall
      simp -implicitDefEqProofs (disch := omega) only [push_cast, wrap_i64, Nat.reduceAdd, Nat.reduceLeDiff, Nat.reduceMul, Nat.reduceSub, Nat.reduceLT, Nat.reduceEqDiff, Int.reduceAdd, Int.reduceSub, Int.reduceLE, Int.reduceLT, Int.reduceEq, Int.reduceNe, Int.reduceToNat, Int.reduceNeg, reduceIte, reduceCtorEq, hc]
      refine pures_of _ (own22_pure l (by omega) hs) ?_
      simp -implicitDefEqProofs (disch := omega) only [push_cast, wrap_i64, Nat.reduceAdd, Nat.reduceLeDiff, Nat.reduceMul, Nat.reduceSub, Nat.reduceLT, Nat.reduceEqDiff, Int.reduceAdd, Int.reduceSub, Int.reduceLE, Int.reduceLT, Int.reduceEq, Int.reduceNe, Int.reduceToNat, Int.reduceNeg, reduceIte, reduceCtorEq]
      refine calls_of (fill_calls _ l H (by omega)) ?_
      rintro e h1 ⟨x, rfl, hsub, xs, hpg, hacc⟩
      have hne := fill_ne l H
      have hxl := hpg.length
      have hfl := fill_length H _ l (Nat.le_refl _)
      rcases hacc.2 with ⟨e1, _⟩ | ⟨bo, hb0, rfl, hbo⟩
      · exfalso
        rw [List.map_eq_nil_iff] at e1
        rw [e1] at hxl
        exact hne (List.length_eq_zero_iff.1 hxl.symm)
      simp -implicitDefEqProofs (disch := omega) only [push_cast, wrap_i64, Nat.reduceAdd, Nat.reduceLeDiff, Nat.reduceMul, Nat.reduceSub, Nat.reduceLT, Nat.reduceEqDiff, Int.reduceAdd, Int.reduceSub, Int.reduceLE, Int.reduceLT, Int.reduceEq, Int.reduceNe, Int.reduceToNat, Int.reduceNeg, reduceIte, reduceCtorEq, backK]
      refine pures_of _ (refFill_pure H _ l (Nat.le_refl _) (by omega)) ?_
      have hel : (encPages (fill l H)).length = xs.length := by rw [hxl]; simp [encPages]
      simp -implicitDefEqProofs (disch := omega) only [push_cast, wrap_i64, Nat.reduceAdd, Nat.reduceLeDiff, Nat.reduceMul, Nat.reduceSub, Nat.reduceLT, Nat.reduceEqDiff, Int.reduceAdd, Int.reduceSub, Int.reduceLE, Int.reduceLT, Int.reduceEq, Int.reduceNe, Int.reduceToNat, Int.reduceNeg, reduceIte, reduceCtorEq, List.length_map, hel]
      refine awp_loop (σ := Nat × Hp) (fun y => ⟨[.isl 6 (l.map encStrip), .any, .any, .any, .any, .any, .isl 6 (l.map encStrip), .osl bo 1 0 xs.length, .isl 1 (encPages (fill l H)), aint y.1] ++ List.replicate 57 .any, y.2⟩)
        (fun y => y.1 ≤ xs.length ∧ y.2 bo = some ⟨1, xs.map fun z => [z]⟩ ∧ PagesAt y.2 (xs.drop y.1) ((fill l H).drop y.1)) (fun y => xs.length - y.1) (0, h1) (Retell.weak (by simp [Weak, push_cast]) (Hp.sub.refl _)) ⟨Nat.zero_le _, hbo, by simpa using hpg⟩ ?_
      rintro ⟨i, h2⟩ ⟨hi, hb2, hp2⟩
      simp only at hi hb2 hp2 ⊢
      by_cases hlt : i < xs.length
      · have hlf : i < (fill l H).length := by omega
        have hx : (xs.map fun y => [y])[i]? = some [xs[i]] := by simp [hlt]
        have hy : (encPages (fill l H))[i]? = some [.isl 6 ((fill l H)[i].map encStrip)] := by simp [encPages, hlf]
        have hc : ((i : Int) < (xs.length : Int)) := by omega
        simp -implicitDefEqProofs (disch := omega) only [push_cast, wrap_i64, Nat.reduceAdd, Nat.reduceLeDiff, Nat.reduceMul, Nat.reduceSub, Nat.reduceLT, Nat.reduceEqDiff, Int.reduceAdd, Int.reduceSub, Int.reduceLE, Int.reduceLT, Int.reduceEq, Int.reduceNe, Int.reduceToNat, Int.reduceNeg, reduceIte, reduceCtorEq, hc, hx, hy, hb2, hlt]
        rw [List.drop_eq_getElem_cons hlt, List.drop_eq_getElem_cons hlf] at hp2
        have hsl : SlOf h2 xs[i] (fill l H)[i] := hp2.at (i := 0) rfl rfl
        have hmem := fill_mem H _ l (Nat.le_refl _) _ (List.getElem_mem hlf)
        have hok : ∀ x ∈ (fill l H)[i], x.line.spots.length ≤ 10000000000000 ∧ x.notes.length ≤ 10000000000000 ∧ ∀ y ∈ x.notes, y.spots.length ≤ 10000000000000 := fun x q => hok1 x (hmem.2 x q)
        refine calls_lent _ (same21_pure (fill l H)[i] (fill l H)[i] (by omega) hok) rfl ⟨hsl.lent, Lent.refl _ _, trivial⟩ ?_
        have hcl : ∀ (b : Nat), h2 b = some ⟨6, (fill l H)[i].map encStrip⟩ → b ≠ bo := fun b q e => by subst e; rw [hb2] at q; cases q
        simp -implicitDefEqProofs (disch := omega) only [push_cast, wrap_i64, Nat.reduceAdd, Nat.reduceLeDiff, Nat.reduceMul, Nat.reduceSub, Nat.reduceLT, Nat.reduceEqDiff, Int.reduceAdd, Int.reduceSub, Int.reduceLE, Int.reduceLT, Int.reduceEq, Int.reduceNe, Int.reduceToNat, Int.reduceNeg, reduceIte, reduceCtorEq, hx, hb2, hlt]
        simp only [PagesAt] at hp2
        rcases hp2 with ⟨_, e2, hp3⟩ | ⟨b, e2, hbb, hp3⟩
        · rw [e2, clearK_nil]
          simp -implicitDefEqProofs (disch := omega) only [push_cast, wrap_i64, Nat.reduceAdd, Nat.reduceLeDiff, Nat.reduceMul, Nat.reduceSub, Nat.reduceLT, Nat.reduceEqDiff, Int.reduceAdd, Int.reduceSub, Int.reduceLE, Int.reduceLT, Int.reduceEq, Int.reduceNe, Int.reduceToNat, Int.reduceNeg, reduceIte, reduceCtorEq]
          refine ⟨(i + 1, h2), by simp only; omega, ⟨hlt, hb2, hp3⟩, Retell.weak ?_ (Hp.sub.refl _)⟩
          simp [Weak, push_cast]
        · rw [e2]
          refine clearK_osl b 6 0 _ tab_29 hbb rfl rfl (by simp) ?_
          simp -implicitDefEqProofs (disch := omega) only [push_cast, wrap_i64, Nat.reduceAdd, Nat.reduceLeDiff, Nat.reduceMul, Nat.reduceSub, Nat.reduceLT, Nat.reduceEqDiff, Int.reduceAdd, Int.reduceSub, Int.reduceLE, Int.reduceLT, Int.reduceEq, Int.reduceNe, Int.reduceToNat, Int.reduceNeg, reduceIte, reduceCtorEq]
          refine ⟨(i + 1, h2.upd b _), by simp only; omega, ⟨hlt, by simp only; rw [Hp.upd_ne _ _ (Ne.symm (hcl b hbb))]; exact hb2, PagesAt.congr (fun b' o q _ => ?_) hp3⟩, Retell.weak ?_ (Hp.sub.refl _)⟩
          · by_cases e : b' = b
            · subst e; simp [Hp.del] at q
            · rw [Hp.del_ne _ e] at q; exact (Hp.upd_ne _ _ e).trans q
          · simp [Weak, push_cast]
      · have hc : ¬ ((i : Int) < (xs.length : Int)) := by omega
        simp -implicitDefEqProofs (disch := omega) only [push_cast, wrap_i64, Nat.reduceAdd, Nat.reduceLeDiff, Nat.reduceMul, Nat.reduceSub, Nat.reduceLT, Nat.reduceEqDiff, Int.reduceAdd, Int.reduceSub, Int.reduceLE, Int.reduceLT, Int.reduceEq, Int.reduceNe, Int.reduceToNat, Int.reduceNeg, reduceIte, reduceCtorEq, hc]
        refine pures_of _ (same21_pure l l (by omega) hok1) ?_
        simp -implicitDefEqProofs (disch := omega) only [push_cast, wrap_i64, Nat.reduceAdd, Nat.reduceLeDiff, Nat.reduceMul, Nat.reduceSub, Nat.reduceLT, Nat.reduceEqDiff, Int.reduceAdd, Int.reduceSub, Int.reduceLE, Int.reduceLT, Int.reduceEq, Int.reduceNe, Int.reduceToNat, Int.reduceNeg, reduceIte, reduceCtorEq]
        refine pures_of _ awake_pure ?_
        simp -implicitDefEqProofs (disch := omega) only [push_cast, wrap_i64, Nat.reduceAdd, Nat.reduceLeDiff, Nat.reduceMul, Nat.reduceSub, Nat.reduceLT, Nat.reduceEqDiff, Int.reduceAdd, Int.reduceSub, Int.reduceLE, Int.reduceLT, Int.reduceEq, Int.reduceNe, Int.reduceToNat, Int.reduceNeg, reduceIte, reduceCtorEq]
        exact retQ_ret (abool true) _ rfl (Hp.sub.refl _) rfl
end Go.Proofs.Ytdobeigblnpjhaa
