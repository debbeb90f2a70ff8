/- The patch's functions, plainly: what they come to. -/
import Derived.Test.YtggcmnoacplbkaaDoorWA5
namespace Go.Proofs.YtggcmnoacplbkaaDoor
open Go Go.Proofs.YtggcmnoacplbkaaDoor.AM
set_option linter.unusedVariables false
set_option linter.unusedSimpArgs false

/-- a loop whose state is told by how often it went round -/
theorem wfor {σ : Type} {body : σ → (σ → Prop) → Prop} {s0 : σ} (idx : σ → Int) (g : Nat → σ) (N : Nat) (P : Nat → Prop) (hi : ∀ n, n ≤ N → idx (g n) = n) (hg : s0 = g 0) (h0 : P 0) (hs : ∀ n, n < N → P n → ∀ K : σ → Prop, (P (n + 1) → K (g (n + 1))) → body (g n) K) (he : P N → ∀ K, body (g N) K) : wloop body s0 := by
  refine ⟨fun s => ∃ n, n ≤ N ∧ s = g n ∧ P n, fun s => (N - idx s).toNat, ⟨0, Nat.zero_le _, hg, h0⟩, ?_⟩
  rintro s ⟨n, hn, rfl, hp⟩
  rcases Nat.lt_or_eq_of_le hn with h | rfl
  · refine hs n h hp _ fun hp' => ⟨⟨n + 1, h, rfl, hp'⟩, ?_⟩
    show ((N : Int) - idx (g (n + 1))).toNat < ((N : Int) - idx (g n)).toNat
    rw [hi _ h, hi _ hn]; omega
  · exact he hp _

def big : Nat := 4611686018427387904
theorem i64_lt {x : Int} (h0 : -4611686018427387904 ≤ x) (h1 : x ≤ 4611686018427387905) : I64 x := ⟨by omega, by omega⟩

section
variable {α : Type}
theorem get_some (l : List α) {n : Nat} (h : n < l.length) : l[(n : Int).toNat]? = some l[n] := by simp [h]

theorem Lines_w (a b : List ByteArray) (hb : a.length ≤ big) {Q : Bool → Prop} (h : Q (decide (a = b))) : stylusref35_Lines.w a b Q := by
  unfold big at hb
  unfold stylusref35_Lines.w
  by_cases hl : a.length = b.length
  · rw [if_pos (by omega)]
    refine wfor (fun i => i) (fun n => (n : Int)) a.length (fun n => a.take n = b.take n) (fun _ _ => rfl) rfl (by simp) ?_ ?_
    · intro n hn hp K hK
      try dsimp only
      rw [if_pos (by omega)]
      refine ⟨by omega, a[n], get_some a hn, b[n]'(by omega), get_some b (by omega), ?_⟩
      split
      · rename_i e
        refine ⟨i64_lt (by omega) (by omega), ?_⟩
        have := hK (by rw [List.take_add_one, List.take_add_one, hp, List.getElem?_eq_getElem hn, List.getElem?_eq_getElem (by omega : n < b.length), e])
        simpa using this
      · rename_i e
        have : a ≠ b := by rintro rfl; exact e rfl
        rw [decide_eq_false this] at h; exact h
    · intro hp K
      try dsimp only
      rw [if_neg (by omega)]
      have : a = b := by
        have e1 : a.take a.length = a := List.take_length
        have e2 : b.take a.length = b := by rw [hl, List.take_length]
        rw [← e1, ← e2, hp]
      rw [decide_eq_true this] at h; exact h
  · rw [if_neg (by omega)]
    have : a ≠ b := by rintro rfl; exact hl rfl
    rw [decide_eq_false this] at h; exact h

theorem Equal_w (a b : List ByteArray) (hb : a.length ≤ big) {Q : Bool → Prop} (h : Q (decide (a = b))) : slices_Equal_string_string.w a b Q := by
  have := Lines_w a b hb h
  exact this

theorem Pages_w (a b : List (List ByteArray)) (hb : a.length ≤ big) (hb2 : ∀ l ∈ a, l.length ≤ big) {Q : Bool → Prop} (h : Q (decide (a = b))) : stylusref35_Pages.w a b Q := by
  unfold big at hb
  unfold stylusref35_Pages.w
  by_cases hl : a.length = b.length
  · rw [if_pos (by omega)]
    refine wfor (fun i => i) (fun n => (n : Int)) a.length (fun n => a.take n = b.take n) (fun _ _ => rfl) rfl (by simp) ?_ ?_
    · intro n hn hp K hK
      try dsimp only
      rw [if_pos (by omega)]
      refine ⟨by omega, a[n], get_some a hn, b[n]'(by omega), get_some b (by omega), _, Lines_w _ _ (hb2 _ (List.getElem_mem hn)) rfl, ?_⟩
      by_cases e : a[n] = b[n]'(by omega)
      · rw [if_neg (by simp [e])]
        refine ⟨i64_lt (by omega) (by omega), ?_⟩
        have := hK (by rw [List.take_add_one, List.take_add_one, hp, List.getElem?_eq_getElem hn, List.getElem?_eq_getElem (by omega : n < b.length), e])
        simpa using this
      · rw [if_pos (by simp [e])]
        have : a ≠ b := by rintro rfl; exact e rfl
        rw [decide_eq_false this] at h; exact h
    · intro hp K
      try dsimp only
      rw [if_neg (by omega)]
      have : a = b := by
        have e1 : a.take a.length = a := List.take_length
        have e2 : b.take a.length = b := by rw [hl, List.take_length]
        rw [← e1, ← e2, hp]
      rw [decide_eq_true this] at h; exact h
  · rw [if_neg (by omega)]
    have : a ≠ b := by rintro rfl; exact hl rfl
    rw [decide_eq_false this] at h; exact h

theorem Same_w (a b : ApiPatch) (hb : a.Changes.length ≤ big) (hb2 : ∀ c ∈ a.Changes, c.Lines.length ≤ big) {Q : Bool → Prop} (h : Q (decide (a = b))) : stylusref35_Same.w a b Q := by
  unfold big at hb
  obtain ⟨p, cs⟩ := a
  obtain ⟨q, ds⟩ := b
  unfold stylusref35_Same.w
  dsimp only at hb hb2 h ⊢
  by_cases hp : p = q
  · rw [if_pos hp]; subst hp
    by_cases hl : cs.length = ds.length
    · rw [if_pos (by omega)]
      refine wfor (fun i => i) (fun n => (n : Int)) cs.length (fun n => cs.take n = ds.take n) (fun _ _ => rfl) rfl (by simp) ?_ ?_
      · intro n hn hp K hK
        try dsimp only
        rw [if_pos (by omega)]
        refine ⟨by omega, cs[n], get_some cs hn, ds[n]'(by omega), get_some ds (by omega), ?_⟩
        by_cases e1 : cs[n].Page = (ds[n]'(by omega)).Page
        · rw [if_pos e1]
          refine ⟨_, Lines_w _ _ (hb2 _ (List.getElem_mem hn)) rfl, ?_⟩
          by_cases e : cs[n].Lines = (ds[n]'(by omega)).Lines
          · rw [if_neg (by simp [e])]
            refine ⟨i64_lt (by omega) (by omega), ?_⟩
            have e3 : cs[n] = ds[n]'(by omega) := by
              generalize cs[n] = x at e1 e
              generalize ds[n]'(by omega) = y at e1 e
              cases x; cases y; simp_all
            have := hK (by rw [List.take_add_one, List.take_add_one, hp, List.getElem?_eq_getElem hn, List.getElem?_eq_getElem (by omega : n < ds.length), e3])
            simpa using this
          · rw [if_pos (by simp [e])]
            have : (⟨p, cs⟩ : ApiPatch) ≠ ⟨p, ds⟩ := by intro e4; cases e4; exact e rfl
            rw [decide_eq_false this] at h; exact h
        · rw [if_neg e1]
          have : (⟨p, cs⟩ : ApiPatch) ≠ ⟨p, ds⟩ := by intro e4; cases e4; exact e1 rfl
          rw [decide_eq_false this] at h; exact h
      · intro hp K
        try dsimp only
        rw [if_neg (by omega)]
        have : cs = ds := by
          have e1 : cs.take cs.length = cs := List.take_length
          have e2 : ds.take cs.length = ds := by rw [hl, List.take_length]
          rw [← e1, ← e2, hp]
        subst this
        rw [decide_eq_true rfl] at h; exact h
    · rw [if_neg (by omega)]
      have : (⟨p, cs⟩ : ApiPatch) ≠ ⟨p, ds⟩ := by intro e4; cases e4; exact hl rfl
      rw [decide_eq_false this] at h; exact h
  · rw [if_neg hp]
    have : (⟨p, cs⟩ : ApiPatch) ≠ ⟨q, ds⟩ := by intro e4; cases e4; exact hp rfl
    rw [decide_eq_false this] at h; exact h

theorem Clone_w (a : List ByteArray) (hb : a.length ≤ 8000000000000) {Q : List ByteArray → Prop} (h : Q a) : slices_Clone_string_string.w a Q := by
  unfold slices_Clone_string_string.w
  refine ⟨?_, ?_, ?_⟩
  · rintro rfl; exact h
  · simp only [List.length_nil]; omega
  · simpa using h

/-! ### the patch from pages to others -/
def chg (was now : List (List ByteArray)) (i : Nat) : Option ApiChange := if was[i]? = now[i]? then none else some ⟨(i : Int) + 1, now.getD i []⟩
def chgs (was now : List (List ByteArray)) (n : Nat) : List ApiChange := (List.range n).filterMap (chg was now)
def ofP (was now : List (List ByteArray)) : ApiPatch := ⟨now.length, chgs was now now.length⟩
theorem chgs_succ (was now : List (List ByteArray)) (n : Nat) : chgs was now (n + 1) = chgs was now n ++ (chg was now n).toList := by
  unfold chgs
  rw [List.range_succ, List.filterMap_append]
  congr 1
theorem chgs_length (was now : List (List ByteArray)) (n : Nat) : (chgs was now n).length ≤ n := by
  unfold chgs
  have := List.length_filterMap_le (chg was now) (List.range n)
  simpa using this

theorem Of_w (was now : List (List ByteArray)) (h1 : now.length ≤ 1000000) (h2 : ∀ l ∈ now, l.length ≤ 1000000) (h3 : ∀ l ∈ was, l.length ≤ 1000000) {Q : ApiPatch → Prop} (h : Q (ofP was now)) : patch_Of.w was now Q := by
  unfold patch_Of.w
  refine wfor (fun s => s.2.2.2.2) (fun n => (0, [], (now.length : Int), chgs was now n, (n : Int))) now.length (fun _ => True) (fun _ _ => rfl) rfl trivial ?_ ?_
  · intro n hn _ K hK
    replace hK := hK trivial
    try dsimp only
    rw [if_pos (by omega)]
    refine ⟨by omega, now[n], get_some now hn, ?_⟩
    have hlen := chgs_length was now n
    have fin : ∀ a6 : Bool, (a6 = true ↔ was[n]? ≠ now[n]?) → (if a6 = true then
          (I64 ((n : Int) + 1)) ∧
          ∃ r2 : List ByteArray, slices_Clone_string_string.w now[n] (fun r' => r' = r2) ∧
          (((chgs was now n).length + ([(⟨(n : Int) + 1, r2⟩ : ApiChange)] : List ApiChange).length) * 32 ≤ 140737488355328) ∧
          (I64 ((n : Int) + 1)) ∧
          K (0, [], (now.length : Int), (chgs was now n) ++ ([(⟨(n : Int) + 1, r2⟩ : ApiChange)] : List ApiChange), (n : Int) + 1)
        else
          (I64 ((n : Int) + 1)) ∧
          K (0, [], (now.length : Int), chgs was now n, (n : Int) + 1)) := by
      intro a6 ha
      have i1 : I64 ((n : Int) + 1) := i64_lt (by omega) (by omega)
      rw [chgs_succ] at hK
      push_cast at hK
      split
      · rename_i e
        refine ⟨i1, now[n], Clone_w _ (by have := h2 _ (List.getElem_mem hn); omega) rfl, by simp only [List.length_cons, List.length_nil]; omega, i1, ?_⟩
        rw [chg, if_neg (ha.1 e)] at hK
        simpa [List.getD, hn] using hK
      · rename_i e
        refine ⟨i1, ?_⟩
        rw [chg, if_pos (Classical.byContradiction fun c => e (ha.2 c))] at hK
        simpa using hK
    unfold wcut
    dsimp only
    by_cases hw : was.length ≤ n
    · rw [if_pos (by omega)]
      refine fin true ?_
      simp [List.getElem?_eq_none hw, List.getElem?_eq_getElem hn]
    · rw [if_neg (by omega)]
      have hw' : n < was.length := by omega
      refine ⟨was[n], get_some was hw', Equal_w _ _ (by have := h3 _ (List.getElem_mem hw'); unfold big; omega) ?_⟩
      refine fin _ ?_
      simp [List.getElem?_eq_getElem hw', List.getElem?_eq_getElem hn]
  · intro _ K
    try dsimp only
    rw [if_neg (by omega)]
    exact h
end
end Go.Proofs.YtggcmnoacplbkaaDoor
