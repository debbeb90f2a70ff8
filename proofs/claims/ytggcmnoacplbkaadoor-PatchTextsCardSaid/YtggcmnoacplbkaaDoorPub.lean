/- The patch's functions, plainly: a patch done on the pages it is from. -/
import Derived.Test.YtggcmnoacplbkaaDoorPua
namespace Go.Proofs.YtggcmnoacplbkaaDoor
open Go Go.Proofs.YtggcmnoacplbkaaDoor.AM
set_option linter.unusedVariables false
set_option linter.unusedSimpArgs false

theorem page_hit (was : List (List ByteArray)) (p : ApiPatch) (c : ApiChange) (cs : List ApiChange) (out : List (List ByteArray)) {Q : Bool → ApiPatch → List (List ByteArray) → Prop} (hp : p.Changes = c :: cs) (hc : c.Page = (out.length : Int) + 1) (ho : out.length ≤ 1000000) (hl : c.Lines.length ≤ 1000000) (h : Q true ⟨p.Pages, cs⟩ (out ++ [c.Lines])) : patch_book_page_i0.w was p out Q := by
  unfold patch_book_page_i0.w wcut
  dsimp only
  rw [hp]
  rw [if_pos (by simp only [List.length_cons]; omega)]
  refine ⟨c, rfl, i64_lt (by omega) (by omega), ?_⟩
  try dsimp only
  rw [if_pos (by simpa using hc)]
  refine ⟨c, rfl, c.Lines, Clone_w _ (by omega) rfl, by simp only [List.length_cons, List.length_nil]; omega, by simp, ?_⟩
  simpa using h

theorem page_was (was : List (List ByteArray)) (p : ApiPatch) (out : List (List ByteArray)) {Q : Bool → ApiPatch → List (List ByteArray) → Prop} (hp : ∀ c cs, p.Changes = c :: cs → c.Page ≠ (out.length : Int) + 1) (ho : out.length ≤ 1000000) (hw : out.length < was.length) (hl : was[out.length].length ≤ 1000000) (h : Q true p (out ++ [was[out.length]])) : patch_book_page_i0.w was p out Q := by
  unfold patch_book_page_i0.w wcut
  dsimp only
  have key : (if false = true then
      ∃ v2 : ApiChange, p.Changes[0]? = some v2 ∧
      ∃ r1 : List ByteArray, slices_Clone_string_string.w v2.Lines (fun r' => r' = r1) ∧
      ((out.length + ([r1] : List (List ByteArray)).length) * 24 ≤ 140737488355328) ∧
      (1 ≤ p.Changes.length) ∧
      Q true (⟨p.Pages, p.Changes.drop 1⟩ : ApiPatch) (out ++ ([r1] : List (List ByteArray)))
    else
      if (was.length : Int) ≤ (out.length : Int) then
        Q false p out
      else
        ∃ v3 : List ByteArray, was[out.length]? = some v3 ∧
        ∃ r2 : List ByteArray, slices_Clone_string_string.w v3 (fun r' => r' = r2) ∧
        ((out.length + ([r2] : List (List ByteArray)).length) * 24 ≤ 140737488355328) ∧
        Q true p (out ++ ([r2] : List (List ByteArray)))) := by
    rw [if_neg (by simp), if_neg (by omega)]
    exact ⟨_, List.getElem?_eq_getElem hw, _, Clone_w _ (by omega) rfl, by simp only [List.length_cons, List.length_nil]; omega, h⟩
  cases hc : p.Changes with
  | nil => rw [hc] at key; rw [if_neg (by simp)]; exact key
  | cons c cs =>
    rw [if_pos (by simp only [List.length_cons]; omega)]
    refine ⟨c, rfl, i64_lt (by omega) (by omega), ?_⟩
    try dsimp only
    rw [hc] at key
    rw [decide_eq_false (hp c cs hc)]
    exact key

def restC (was now : List (List ByteArray)) (n : Nat) : List ApiChange := ((List.range now.length).drop n).filterMap (chg was now)
theorem restC_zero (was now : List (List ByteArray)) : restC was now 0 = chgs was now now.length := rfl
theorem restC_end (was now : List (List ByteArray)) : restC was now now.length = [] := by
  unfold restC; rw [List.drop_of_length_le (by simp)]; rfl
theorem restC_step (was now : List (List ByteArray)) {n : Nat} (hn : n < now.length) : restC was now n = (chg was now n).toList ++ restC was now (n + 1) := by
  unfold restC
  rw [List.drop_eq_getElem_cons (by simpa using hn), List.getElem_range, List.filterMap_cons]
  cases chg was now n <;> rfl
theorem restC_page (was now : List (List ByteArray)) (n : Nat) : ∀ c ∈ restC was now n, (n : Int) + 1 ≤ c.Page := by
  intro c hc
  unfold restC at hc
  obtain ⟨i, hi, he⟩ := List.mem_filterMap.1 hc
  obtain ⟨k, hk, hk2⟩ := List.mem_iff_getElem.1 hi
  rw [List.getElem_drop, List.getElem_range] at hk2
  unfold chg at he
  split at he
  · cases he
  · cases he
    show (n : Int) + 1 ≤ (i : Int) + 1
    omega
theorem chgs_many (was now : List (List ByteArray)) : ∀ n, n ≤ now.length → n ≤ (chgs was now n).length + was.length
  | 0, _ => Nat.zero_le _
  | n + 1, h => by
    rw [chgs_succ, List.length_append]
    by_cases hw : was.length ≤ n
    · have ih := chgs_many was now n (by omega)
      have : (chg was now n).toList.length = 1 := by
        unfold chg; rw [if_neg (by rw [List.getElem?_eq_none hw, List.getElem?_eq_getElem (by omega)]; simp)]; rfl
      omega
    · omega

theorem Do_w (was now : List (List ByteArray)) (h0 : was.length ≤ 1000000) (h1 : now.length ≤ 1000000) (h2 : ∀ l ∈ now, l.length ≤ 1000000) {Q : List (List ByteArray) × Int → Prop} (h : Q (now, 0)) : patch_Do.w was (ofP was now) Q := by
  unfold patch_Do.w
  have hc := chgs_length was now now.length
  have hm := chgs_many was now now.length (Nat.le_refl _)
  have e1 : (ofP was now).Pages = now.length := rfl
  have e2 : (ofP was now).Changes = chgs was now now.length := rfl
  rw [e1, e2]
  rw [if_neg (by omega)]
  refine ⟨i64_lt (by omega) (by omega), ?_⟩
  rw [if_neg (by omega)]
  refine wfor (fun s => (s.2.length : Int)) (fun n => (⟨now.length, restC was now n⟩, now.take n)) now.length (fun _ => True) (fun n hn => by simp; omega) (by rw [restC_zero]; rfl) trivial ?_ ?_
  · intro n hn _ K hK
    replace hK := hK trivial
    have hl : (now.take n).length = n := by simp; omega
    try dsimp only
    rw [if_pos (by rw [hl]; omega)]
    have ht : now.take (n + 1) = now.take n ++ [now[n]] := by rw [List.take_add_one, List.getElem?_eq_getElem hn]; rfl
    rw [ht] at hK
    have st := restC_step was now hn
    by_cases e : was[n]? = now[n]?
    · have ec : chg was now n = none := by unfold chg; rw [if_pos e]
      rw [ec] at st
      have hw : n < was.length := by
        rcases Nat.lt_or_ge n was.length with k | k
        · exact k
        · rw [List.getElem?_eq_none k, List.getElem?_eq_getElem hn] at e; cases e
      have ew : was[n] = now[n] := by rw [List.getElem?_eq_getElem hw, List.getElem?_eq_getElem hn] at e; exact Option.some.inj e
      have st' : restC was now n = restC was now (n + 1) := by rw [st]; rfl
      refine page_was was _ _ ?_ (by omega) (by omega) ?_ ?_
      · intro c cs hcs
        have := restC_page was now (n + 1) c (by rw [← st', show restC was now n = c :: cs from hcs]; simp)
        rw [hl]; omega
      · simp only [hl, ew]; exact h2 _ (List.getElem_mem hn)
      · rw [if_neg (by simp)]
        rw [st']
        simp only [hl, ew]
        exact hK
    · have ec : chg was now n = some ⟨(n : Int) + 1, now[n]⟩ := by unfold chg; rw [if_neg e]; simp [List.getD, hn]
      rw [ec] at st
      refine page_hit was _ ⟨(n : Int) + 1, now[n]⟩ (restC was now (n + 1)) _ st (by rw [hl]) (by omega) (h2 _ (List.getElem_mem hn)) ?_
      rw [if_neg (by simp)]
      exact hK
  · intro _ K
    try dsimp only
    rw [List.take_length, if_neg (by omega), restC_end, if_neg (by simp)]
    exact h
end Go.Proofs.YtggcmnoacplbkaaDoor
