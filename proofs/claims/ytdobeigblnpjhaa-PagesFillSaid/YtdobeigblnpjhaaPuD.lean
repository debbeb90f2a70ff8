/- Pages: the walks of the code: a page's copy, where it is cut. -/
import Derived.Test.YtdobeigblnpjhaaCodeC
import Derived.Test.YtdobeigblnpjhaaMore
import Derived.Test.YtdobeigblnpjhaaPuA
namespace Go.Proofs.Ytdobeigblnpjhaa
open Go Go.Proofs.Ytdobeigblnpjhaa.AM
set_option maxRecDepth 100000
set_option linter.unusedSimpArgs false

/-- A slice of strips: nil, or the first so many of a block. -/
def SlOf (h : Hp) (x : AV) (l : List Strip) : Prop := (l = [] ∧ x = anil) ∨ ∃ b rest, x = .osl b 6 0 l.length ∧ h b = some ⟨6, l.map encStrip ++ rest⟩

theorem SlOf.sub {h h' : Hp} {x : AV} {l : List Strip} (s : SlOf h x l) (k : h.sub h') : SlOf h' x l :=
  s.imp id fun ⟨b, r, h1, h2⟩ => ⟨b, r, h1, k _ _ h2⟩
theorem SlOf.take {h : Hp} {b : Nat} {l : List Strip} {rest : List (List AV)} (hb : h b = some ⟨6, l.map encStrip ++ rest⟩) (n : Nat) (hn : n ≤ l.length) : SlOf h (.osl b 6 0 n) (l.take n) :=
  .inr ⟨b, (l.drop n).map encStrip ++ rest, by simp; omega, by rw [hb, ← List.append_assoc, ← List.map_append, List.take_append_drop]⟩
theorem SlOf.lent {h : Hp} {x : AV} {l : List Strip} (s : SlOf h x l) : Lent h x (.isl 6 (l.map encStrip)) := by
  obtain ⟨rfl, rfl⟩ | ⟨b, rest, rfl, hb⟩ := s
  · exact Lent.nil h 6
  · have := Lent.osl (off := 0) (len := l.length) hb rfl (by simp)
    simpa [List.take_append_of_le_length] using this

/-- A copy. -/
theorem clone_calls (h : Hp) (x : AV) (l : List Strip) (hs : SlOf h x l) (hl : l.length * 80 ≤ 140737488355328) :
    ACalls Try.prog n_slices_Clone_pages_sheet_api_Strip [x] h fun e h' => ∃ y, e = .ret y ∧ h.sub h' ∧ Acc h 6 (l.map encStrip) y h' := by
  refine enter_slices_Clone_pages_sheet_api_Strip ?_
  obtain ⟨rfl, rfl⟩ | ⟨b, rest, rfl, hb⟩ := hs
  · simp -implicitDefEqProofs (disch := omega) only [push_cast, wrap_i64, Nat.reduceAdd, Nat.reduceLeDiff, Nat.reduceMul, Nat.reduceSub, Nat.reduceLT, Nat.reduceEqDiff, Int.reduceAdd, Int.reduceSub, Int.reduceLE, Int.reduceLT, Int.reduceEq, Int.reduceNe, Int.reduceToNat, Int.reduceNeg, reduceIte, reduceCtorEq, ac_slices_Clone_pages_sheet_api_Strip]
    refine retQ_ret anil h ?_ (Hp.sub.refl h) ⟨anil, rfl, Hp.sub.refl h, Acc.nil h 6⟩
    simp [push_cast]
  · simp -implicitDefEqProofs (disch := omega) only [push_cast, wrap_i64, Nat.reduceAdd, Nat.reduceLeDiff, Nat.reduceMul, Nat.reduceSub, Nat.reduceLT, Nat.reduceEqDiff, Int.reduceAdd, Int.reduceSub, Int.reduceLE, Int.reduceLT, Int.reduceEq, Int.reduceNe, Int.reduceToNat, Int.reduceNeg, reduceIte, reduceCtorEq, ac_slices_Clone_pages_sheet_api_Strip]
    intro b5 hb5
    have hbb : h.upd b5 ⟨6, []⟩ b = some ⟨6, l.map encStrip ++ rest⟩ := Hp.upd_old hb5 hb
    have hle : l.length ≤ (l.map encStrip ++ rest).length := by simp
    have ht : (l.map encStrip ++ rest).take l.length = l.map encStrip := by rw [List.take_append_of_le_length (by simp), List.take_of_length_le (by simp)]
    simp -implicitDefEqProofs (disch := omega) only [push_cast, wrap_i64, Nat.reduceAdd, Nat.reduceLeDiff, Nat.reduceMul, Nat.reduceSub, Nat.reduceLT, Nat.reduceEqDiff, Int.reduceAdd, Int.reduceSub, Int.reduceLE, Int.reduceLT, Int.reduceEq, Int.reduceNe, Int.reduceToNat, Int.reduceNeg, reduceIte, reduceCtorEq, hbb, hle, ht]
    refine ⟨by simpa using hl, ?_⟩
    rw [Hp.upd_del hb5]
    intro b7 hb7
    simp -implicitDefEqProofs (disch := omega) only [push_cast, wrap_i64, Nat.reduceAdd, Nat.reduceLeDiff, Nat.reduceMul, Nat.reduceSub, Nat.reduceLT, Nat.reduceEqDiff, Int.reduceAdd, Int.reduceSub, Int.reduceLE, Int.reduceLT, Int.reduceEq, Int.reduceNe, Int.reduceToNat, Int.reduceNeg, reduceIte, reduceCtorEq]
    refine retQ_ret (.osl b7 6 0 l.length) _ ?_ (Hp.sub.refl _) ⟨_, rfl, (Hp.sub.refl h).upd _ hb7, (Hp.sub.refl h).upd _ hb7, .inr ⟨b7, hb7, by simp, by simp⟩⟩
    simp [push_cast]

theorem cut_calls (h : Hp) (bf : Nat) (sheet out : AV) (l : List Strip) (hf : h bf = some ⟨2, [[sheet, out]]⟩) (hs : SlOf h sheet l) (hl : l.length ≤ 1000000000000) :
    ACalls Try.prog n_pages_filler_cut [.optr bf 2 0 0] h fun e h' => e = .ret (aint (stay l)) ∧ h' = h := by
  refine enter_pages_filler_cut ?_
  simp -implicitDefEqProofs (disch := omega) only [push_cast, wrap_i64, Nat.reduceAdd, Nat.reduceLeDiff, Nat.reduceMul, Nat.reduceSub, Nat.reduceLT, Nat.reduceEqDiff, Int.reduceAdd, Int.reduceSub, Int.reduceLE, Int.reduceLT, Int.reduceEq, Int.reduceNe, Int.reduceToNat, Int.reduceNeg, reduceIte, reduceCtorEq, ac_pages_filler_cut]
  refine awp_loop (σ := Nat) (fun k => ⟨[.optr bf 2 0 0, .any, .any, .any, .any, .any, .agg [aint 0, aint 1], aint k] ++ List.replicate 18 .any, h⟩)
    (fun k => k ≤ 2 ∧ (0 < k → lastN l 0 l.length = 0) ∧ (1 < k → lastN l 1 l.length = 0)) (fun k => 2 - k) 0 (Retell.weak (by simp [Weak, push_cast]) (Hp.sub.refl _)) ⟨by omega, by omega, by omega⟩ ?_
  rintro k ⟨hk, h0, h1⟩
  by_cases hlt : k < 2
  · have hc : ((k : Int) < 2) := by omega
    rcases Nat.lt_or_ge 0 k with hp | hp
    · obtain rfl : k = 1 := by omega
      simp -implicitDefEqProofs (disch := omega) only [push_cast, wrap_i64, Nat.reduceAdd, Nat.reduceLeDiff, Nat.reduceMul, Nat.reduceSub, Nat.reduceLT, Nat.reduceEqDiff, Int.reduceAdd, Int.reduceSub, Int.reduceLE, Int.reduceLT, Int.reduceEq, Int.reduceNe, Int.reduceToNat, Int.reduceNeg, reduceIte, reduceCtorEq, hf]
      refine calls_lent _ (last_pure l 1 hl) rfl ⟨hs.lent, Lent.refl _ _, trivial⟩ ?_
      by_cases hz : 0 < lastN l 1 l.length
      · have e0 : ((0 : Int) ≤ (lastN l 1 l.length : Int) - 1) = True := eq_true (by omega)
        have hle := lastN_le l 1 l.length
        have e1 : (lastN l 1 l.length : Int) - 1 + 1 = lastN l 1 l.length := by omega
        simp -implicitDefEqProofs (disch := omega) only [push_cast, wrap_i64, Nat.reduceAdd, Nat.reduceLeDiff, Nat.reduceMul, Nat.reduceSub, Nat.reduceLT, Nat.reduceEqDiff, Int.reduceAdd, Int.reduceSub, Int.reduceLE, Int.reduceLT, Int.reduceEq, Int.reduceNe, Int.reduceToNat, Int.reduceNeg, reduceIte, reduceCtorEq, e0, e1]
        refine retQ_ret (aint (stay l)) h ?_ (Hp.sub.refl h) ⟨rfl, rfl⟩
        have hst : stay l = lastN l 1 l.length := by
          unfold stay; rw [h0 hp, if_neg (by omega), if_pos hz]
        simp [push_cast, hst]
      · have e0 : ((0 : Int) ≤ (lastN l 1 l.length : Int) - 1) = False := eq_false (by omega)
        have hz' : lastN l 1 l.length = 0 := by omega
        simp -implicitDefEqProofs (disch := omega) only [push_cast, wrap_i64, Nat.reduceAdd, Nat.reduceLeDiff, Nat.reduceMul, Nat.reduceSub, Nat.reduceLT, Nat.reduceEqDiff, Int.reduceAdd, Int.reduceSub, Int.reduceLE, Int.reduceLT, Int.reduceEq, Int.reduceNe, Int.reduceToNat, Int.reduceNeg, reduceIte, reduceCtorEq, e0]
        refine ⟨2, by omega, ⟨by omega, fun _ => h0 hp, fun _ => hz'⟩, Retell.weak ?_ (Hp.sub.refl h)⟩
        simp [Weak, push_cast]
    · obtain rfl : k = 0 := by omega
      simp -implicitDefEqProofs (disch := omega) only [push_cast, wrap_i64, Nat.reduceAdd, Nat.reduceLeDiff, Nat.reduceMul, Nat.reduceSub, Nat.reduceLT, Nat.reduceEqDiff, Int.reduceAdd, Int.reduceSub, Int.reduceLE, Int.reduceLT, Int.reduceEq, Int.reduceNe, Int.reduceToNat, Int.reduceNeg, reduceIte, reduceCtorEq, hf]
      refine calls_lent _ (last_pure l 0 hl) rfl ⟨hs.lent, Lent.refl _ _, trivial⟩ ?_
      by_cases hz : 0 < lastN l 0 l.length
      · have e0 : ((0 : Int) ≤ (lastN l 0 l.length : Int) - 1) = True := eq_true (by omega)
        have hle := lastN_le l 0 l.length
        have e1 : (lastN l 0 l.length : Int) - 1 + 1 = lastN l 0 l.length := by omega
        simp -implicitDefEqProofs (disch := omega) only [push_cast, wrap_i64, Nat.reduceAdd, Nat.reduceLeDiff, Nat.reduceMul, Nat.reduceSub, Nat.reduceLT, Nat.reduceEqDiff, Int.reduceAdd, Int.reduceSub, Int.reduceLE, Int.reduceLT, Int.reduceEq, Int.reduceNe, Int.reduceToNat, Int.reduceNeg, reduceIte, reduceCtorEq, e0, e1]
        refine retQ_ret (aint (stay l)) h ?_ (Hp.sub.refl h) ⟨rfl, rfl⟩
        have hst : stay l = lastN l 0 l.length := by
          unfold stay; rw [if_pos hz]
        simp [push_cast, hst]
      · have e0 : ((0 : Int) ≤ (lastN l 0 l.length : Int) - 1) = False := eq_false (by omega)
        have hz' : lastN l 0 l.length = 0 := by omega
        simp -implicitDefEqProofs (disch := omega) only [push_cast, wrap_i64, Nat.reduceAdd, Nat.reduceLeDiff, Nat.reduceMul, Nat.reduceSub, Nat.reduceLT, Nat.reduceEqDiff, Int.reduceAdd, Int.reduceSub, Int.reduceLE, Int.reduceLT, Int.reduceEq, Int.reduceNe, Int.reduceToNat, Int.reduceNeg, reduceIte, reduceCtorEq, e0]
        refine ⟨1, by omega, ⟨by omega, fun _ => hz', fun _ => by omega⟩, Retell.weak ?_ (Hp.sub.refl h)⟩
        simp [Weak, push_cast]
  · obtain rfl : k = 2 := by omega
    have hst : stay l = l.length := by unfold stay; rw [h0 (by omega), h1 (by omega)]; simp
    obtain ⟨rfl, rfl⟩ | ⟨b, rest, rfl, hb⟩ := hs
    · simp -implicitDefEqProofs (disch := omega) only [push_cast, wrap_i64, Nat.reduceAdd, Nat.reduceLeDiff, Nat.reduceMul, Nat.reduceSub, Nat.reduceLT, Nat.reduceEqDiff, Int.reduceAdd, Int.reduceSub, Int.reduceLE, Int.reduceLT, Int.reduceEq, Int.reduceNe, Int.reduceToNat, Int.reduceNeg, reduceIte, reduceCtorEq, hf]
      refine retQ_ret (aint (stay [])) h ?_ (Hp.sub.refl h) ⟨rfl, rfl⟩
      simp [push_cast, hst]
    · simp -implicitDefEqProofs (disch := omega) only [push_cast, wrap_i64, Nat.reduceAdd, Nat.reduceLeDiff, Nat.reduceMul, Nat.reduceSub, Nat.reduceLT, Nat.reduceEqDiff, Int.reduceAdd, Int.reduceSub, Int.reduceLE, Int.reduceLT, Int.reduceEq, Int.reduceNe, Int.reduceToNat, Int.reduceNeg, reduceIte, reduceCtorEq, hf]
      refine retQ_ret (aint (stay l)) h ?_ (Hp.sub.refl h) ⟨rfl, rfl⟩
      simp [push_cast, hst]
/-- Pages, each in a block of its own. -/
def PagesAt : Hp → List AV → List (List Strip) → Prop
  | _, [], [] => True
  | h, x :: xs, p :: ps => (p = [] ∧ x = anil ∧ PagesAt h xs ps) ∨ ∃ b, x = .osl b 6 0 p.length ∧ h b = some ⟨6, p.map encStrip⟩ ∧ PagesAt (h.del b) xs ps
  | _, _, _ => False

theorem PagesAt.length : ∀ {xs : List AV} {ps : List (List Strip)} {h : Hp}, PagesAt h xs ps → xs.length = ps.length
  | [], [], _, _ => rfl
  | x :: xs, p :: ps, h, k => by
    simp only [PagesAt] at k
    rcases k with ⟨_, _, k⟩ | ⟨_, _, _, k⟩ <;> simp [PagesAt.length k]
  | [], _ :: _, _, k => by simp [PagesAt] at k
  | _ :: _, [], _, k => by simp [PagesAt] at k
theorem PagesAt.congr : ∀ {xs : List AV} {ps : List (List Strip)} {h h' : Hp}, (∀ b o, h b = some o → o.sz = 6 → h' b = some o) → PagesAt h xs ps → PagesAt h' xs ps
  | [], [], _, _, _, _ => by simp [PagesAt]
  | x :: xs, p :: ps, h, h', e, k => by
    simp only [PagesAt] at k ⊢
    rcases k with ⟨a, b, k⟩ | ⟨b, k1, k2, k3⟩
    · exact .inl ⟨a, b, PagesAt.congr e k⟩
    · refine .inr ⟨b, k1, e b _ k2 rfl, PagesAt.congr (fun b2 o h1 h2 => ?_) k3⟩
      by_cases eb : b2 = b
      · subst eb; simp [Hp.del] at h1
      · rw [Hp.del_ne _ eb] at h1 ⊢; exact e b2 o h1 h2
  | [], _ :: _, _, _, _, k => by simp [PagesAt] at k
  | _ :: _, [], _, _, _, k => by simp [PagesAt] at k

theorem Acc.delBoth {h0 h : Hp} {sz : Nat} {rows : List (List AV)} {x : AV} (a : Acc h0 sz rows x h) {b : Nat} {o : Ob} (hb : h0 b = some o) : Acc (h0.del b) sz rows x (h.del b) := by
  refine ⟨fun b2 o2 h2 => ?_, a.2.imp id ?_⟩
  · by_cases e : b2 = b
    · subst e; simp [Hp.del] at h2
    · rw [Hp.del_ne _ e] at h2 ⊢; exact a.1 _ _ h2
  · rintro ⟨b', h1, h2, h3⟩
    have e : b' ≠ b := by intro e; subst e; rw [hb] at h1; cases h1
    exact ⟨b', by rw [Hp.del_ne _ e]; exact h1, h2, by rw [Hp.del_ne _ e]; exact h3⟩

theorem Acc.set {h0 h : Hp} {sz : Nat} {rows : List (List AV)} {x : AV} (a : Acc h0 sz rows x h) {b : Nat} {o : Ob} (hb : h0 b = none) (hx : ∀ n, x ≠ .osl b sz 0 n) : Acc h0 sz rows x (h.upd b o) := by
  refine ⟨a.1.upd o hb, a.2.imp id ?_⟩
  rintro ⟨b', h1, h2, h3⟩
  have e : b' ≠ b := by intro e; subst e; exact hx _ h2
  exact ⟨b', h1, h2, by rw [Hp.upd_ne _ _ e]; exact h3⟩

theorem PagesAt.snoc {y : AV} {p : List Strip} : ∀ {xs : List AV} {ps : List (List Strip)} {h h' : Hp}, PagesAt h xs ps → Acc h 6 (p.map encStrip) y h' → PagesAt h' (xs ++ [y]) (ps ++ [p])
  | [], [], h, h', _, a => by
    simp only [List.nil_append, PagesAt]
    obtain ⟨_, ⟨h1, h2⟩ | ⟨b, _, h2, h3⟩⟩ := a
    · exact .inl ⟨by simpa using h1, h2, trivial⟩
    · exact .inr ⟨b, by simpa using h2, h3, trivial⟩
  | x :: xs, q :: ps, h, h', k, a => by
    simp only [List.cons_append, PagesAt] at k ⊢
    rcases k with ⟨k1, k2, k⟩ | ⟨b, k1, k2, k3⟩
    · exact .inl ⟨k1, k2, PagesAt.snoc k a⟩
    · exact .inr ⟨b, k1, a.1 _ _ k2, PagesAt.snoc k3 (Acc.delBoth a k2)⟩
  | [], _ :: _, _, _, k, _ => by simp [PagesAt] at k
  | _ :: _, [], _, _, k, _ => by simp [PagesAt] at k

/-- The pages so far. -/
def OutA (h0 h : Hp) (x : AV) (ps : List (List Strip)) : Prop := ∃ xs : List AV, PagesAt h xs ps ∧ Acc h0 1 (xs.map fun y => [y]) x h

theorem pages_step {h0 h h1 h2 : Hp} {bf b10 : Nat} {xs : List AV} {ps : List (List Strip)} {y out : AV} {p : List Strip} {ob : Ob} {rw1 : List (List AV)} (hpg : PagesAt h xs ps) (acc : Acc h 6 (p.map encStrip) y h1) (hsub : h.sub h1)
    (hf1 : h1 bf = some ⟨2, rw1⟩) (hacc : Acc h0 1 (xs.map fun y => [y]) out h) (hb10 : h1 b10 = none) (keep : ∀ b o, (h1.upd b10 ob) b = some o → (∀ n, out ≠ .osl b 1 0 n) → h2 b = some o) (r : List (List AV)) :
    PagesAt (h2.upd bf ⟨2, r⟩) (xs ++ [y]) (ps ++ [p]) := by
  refine PagesAt.congr (fun b' o h3 h4 => ?_) (PagesAt.snoc hpg acc)
  have hne2 : b' ≠ bf := by intro e; subst e; rw [hf1] at h3; cases h3; simp at h4
  rw [Hp.upd_ne _ _ hne2]
  refine keep b' o (Hp.upd_old hb10 h3) fun m e => ?_
  rcases hacc.2 with ⟨_, q⟩ | ⟨bo, _, q, q3⟩
  · rw [q] at e; cases e
  · rw [q] at e; cases e
    rw [hsub _ _ q3] at h3; cases h3; simp at h4
theorem out_step {h0 h2 : Hp} {bf : Nat} {xs : List AV} {y x' : AV} (acc2 : Acc h0 1 ((xs.map fun y => [y]) ++ [[y]]) x' h2) (hf0 : h0 bf = none) (hx : ∀ m, x' ≠ .osl bf 1 0 m) (r : List (List AV)) : Acc h0 1 ((xs ++ [y]).map fun y => [y]) x' (h2.upd bf ⟨2, r⟩) := by
  rw [List.map_append]
  exact Acc.set acc2 hf0 hx

theorem fill1_calls (h0 h : Hp) (bf n : Nat) (sheet out : AV) (l : List Strip) (ps : List (List Strip)) (hs0 : h0.sub h) (hf0 : h0 bf = none) (hf : h bf = some ⟨2, [[sheet, out]]⟩) (hs : SlOf h sheet l) (hn : n ≤ l.length)
    (ho : OutA h0 h out ps) (hl : l.length * 80 ≤ 140737488355328) (hp : ps.length ≤ 1000000000) :
    ACalls Try.prog n_pages_Fill_1 [aint n, .optr bf 2 0 0] h fun e h' => ∃ y out', e = .ret y ∧ h0.sub h' ∧ h' bf = some ⟨2, [[anil, out']]⟩ ∧ OutA h0 h' out' (ps ++ [l.take n]) := by
  obtain ⟨xs, hpg, hacc⟩ := ho
  have hxl := hpg.length
  refine enter_pages_Fill_1 ?_
  -- behind the copy
  have tl : (l.take n).length * 80 ≤ 140737488355328 := by simp; omega
  have hne : ∀ m, out ≠ .osl bf 1 0 m := by
    intro m e
    rcases hacc.2 with ⟨_, q⟩ | ⟨bo, _, q, q3⟩
    · rw [q] at e; cases e
    · rw [q] at e; cases e; rw [hf] at q3; cases q3
  rcases hs with ⟨rfl, rfl⟩ | ⟨b, rest, rfl, hb⟩
  · obtain rfl : n = 0 := by simpa using hn
    have hy0 : SlOf h anil (([] : List Strip).take 0) := .inl ⟨rfl, rfl⟩
    simp -implicitDefEqProofs (disch := omega) only [push_cast, wrap_i64, Nat.reduceAdd, Nat.reduceLeDiff, Nat.reduceMul, Nat.reduceSub, Nat.reduceLT, Nat.reduceEqDiff, Int.reduceAdd, Int.reduceSub, Int.reduceLE, Int.reduceLT, Int.reduceEq, Int.reduceNe, Int.reduceToNat, Int.reduceNeg, reduceIte, reduceCtorEq, ac_pages_Fill_1, hf]
    refine ⟨?_, ?_, ?_⟩
    all_goals
      refine calls_of (clone_calls h _ _ hy0 tl) ?_
      rintro e h1 ⟨y, rfl, hsub, acc⟩
      have hf1 := hsub _ _ hf
      rcases acc.2 with ⟨_, rfl⟩ | ⟨by', _, rfl, _⟩
      all_goals
        try rw [List.length_map] at acc
        simp -implicitDefEqProofs (disch := omega) only [push_cast, wrap_i64, Nat.reduceAdd, Nat.reduceLeDiff, Nat.reduceMul, Nat.reduceSub, Nat.reduceLT, Nat.reduceEqDiff, Int.reduceAdd, Int.reduceSub, Int.reduceLE, Int.reduceLT, Int.reduceEq, Int.reduceNe, Int.reduceToNat, Int.reduceNeg, reduceIte, reduceCtorEq, backK, hf1]
        intro b10 hb10
        have hf2 := fun o => Hp.upd_old (o := o) hb10 hf1
        simp -implicitDefEqProofs (disch := omega) only [push_cast, wrap_i64, Nat.reduceAdd, Nat.reduceLeDiff, Nat.reduceMul, Nat.reduceSub, Nat.reduceLT, Nat.reduceEqDiff, Int.reduceAdd, Int.reduceSub, Int.reduceLE, Int.reduceLT, Int.reduceEq, Int.reduceNe, Int.reduceToNat, Int.reduceNeg, reduceIte, reduceCtorEq, hf2]
        refine appR_acc (h0 := h0) (sz := 1) (rows := xs.map fun y => [y]) ⟨hs0.trans (hsub.trans ((Hp.sub.refl h1).upd _ hb10)), hacc.2.imp id fun ⟨bo, q1, q2, q3⟩ => ⟨bo, q1, q2, Hp.upd_old hb10 (hsub _ _ q3)⟩⟩ rfl (by omega) (by simp) (by simp; omega) ?_
        intro x' h2 acc2 keep fresh
        have hfo := keep bf _ (hf2 _) hne
        have hx' : ∀ m, x' ≠ .osl bf 1 0 m := fun m e => hne _ (fresh bf m e _ (hf2 _))
        rcases acc2.2 with ⟨_, rfl⟩ | ⟨bx, _, rfl, _⟩
        all_goals
          simp -implicitDefEqProofs (disch := omega) only [push_cast, wrap_i64, Nat.reduceAdd, Nat.reduceLeDiff, Nat.reduceMul, Nat.reduceSub, Nat.reduceLT, Nat.reduceEqDiff, Int.reduceAdd, Int.reduceSub, Int.reduceLE, Int.reduceLT, Int.reduceEq, Int.reduceNe, Int.reduceToNat, Int.reduceNeg, reduceIte, reduceCtorEq, hfo, Hp.upd_upd]
          exact retQ_norm (.tup []) _ rfl (Hp.sub.refl _) ⟨_, _, rfl, acc2.1.upd _ hf0, Hp.upd_same _ _ _, _, pages_step hpg acc hsub hf1 hacc hb10 keep _, out_step acc2 hf0 hx' _⟩
  · have hy0 := SlOf.take hb n hn
    simp -implicitDefEqProofs (disch := omega) only [push_cast, wrap_i64, Nat.reduceAdd, Nat.reduceLeDiff, Nat.reduceMul, Nat.reduceSub, Nat.reduceLT, Nat.reduceEqDiff, Int.reduceAdd, Int.reduceSub, Int.reduceLE, Int.reduceLT, Int.reduceEq, Int.reduceNe, Int.reduceToNat, Int.reduceNeg, reduceIte, reduceCtorEq, ac_pages_Fill_1, hf, hn, Nat.zero_le, Nat.sub_zero]
    refine ⟨?_, ?_, ?_⟩
    all_goals
      refine calls_of (clone_calls h _ _ hy0 tl) ?_
      rintro e h1 ⟨y, rfl, hsub, acc⟩
      have hf1 := hsub _ _ hf
      rcases acc.2 with ⟨_, rfl⟩ | ⟨by', _, rfl, _⟩
      all_goals
        try rw [List.length_map] at acc
        simp -implicitDefEqProofs (disch := omega) only [push_cast, wrap_i64, Nat.reduceAdd, Nat.reduceLeDiff, Nat.reduceMul, Nat.reduceSub, Nat.reduceLT, Nat.reduceEqDiff, Int.reduceAdd, Int.reduceSub, Int.reduceLE, Int.reduceLT, Int.reduceEq, Int.reduceNe, Int.reduceToNat, Int.reduceNeg, reduceIte, reduceCtorEq, backK, hf1]
        intro b10 hb10
        have hf2 := fun o => Hp.upd_old (o := o) hb10 hf1
        simp -implicitDefEqProofs (disch := omega) only [push_cast, wrap_i64, Nat.reduceAdd, Nat.reduceLeDiff, Nat.reduceMul, Nat.reduceSub, Nat.reduceLT, Nat.reduceEqDiff, Int.reduceAdd, Int.reduceSub, Int.reduceLE, Int.reduceLT, Int.reduceEq, Int.reduceNe, Int.reduceToNat, Int.reduceNeg, reduceIte, reduceCtorEq, hf2]
        refine appR_acc (h0 := h0) (sz := 1) (rows := xs.map fun y => [y]) ⟨hs0.trans (hsub.trans ((Hp.sub.refl h1).upd _ hb10)), hacc.2.imp id fun ⟨bo, q1, q2, q3⟩ => ⟨bo, q1, q2, Hp.upd_old hb10 (hsub _ _ q3)⟩⟩ rfl (by omega) (by simp) (by simp; omega) ?_
        intro x' h2 acc2 keep fresh
        have hfo := keep bf _ (hf2 _) hne
        have hx' : ∀ m, x' ≠ .osl bf 1 0 m := fun m e => hne _ (fresh bf m e _ (hf2 _))
        rcases acc2.2 with ⟨_, rfl⟩ | ⟨bx, _, rfl, _⟩
        all_goals
          simp -implicitDefEqProofs (disch := omega) only [push_cast, wrap_i64, Nat.reduceAdd, Nat.reduceLeDiff, Nat.reduceMul, Nat.reduceSub, Nat.reduceLT, Nat.reduceEqDiff, Int.reduceAdd, Int.reduceSub, Int.reduceLE, Int.reduceLT, Int.reduceEq, Int.reduceNe, Int.reduceToNat, Int.reduceNeg, reduceIte, reduceCtorEq, hfo, Hp.upd_upd]
          exact retQ_norm (.tup []) _ rfl (Hp.sub.refl _) ⟨_, _, rfl, acc2.1.upd _ hf0, Hp.upd_same _ _ _, _, pages_step hpg acc hsub hf1 hacc hb10 keep _, out_step acc2 hf0 hx' _⟩
end Go.Proofs.Ytdobeigblnpjhaa
