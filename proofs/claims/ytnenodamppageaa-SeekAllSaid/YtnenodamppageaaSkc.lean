/- seek.At, seek.Index and the reference's, plainly. -/
import Derived.Test.YtnenodamppageaaSkb
import Derived.Sort.Walk0
import Derived.Laws.Strings
namespace Go.Proofs.Ytnenodamppageaa
open Go Go.Proofs.Ytnenodamppageaa.AM
set_option linter.unusedVariables false
set_option linter.unusedSimpArgs false

theorem yfold_closed {α σ : Type} {Y : α → σ → (Bool → σ → Prop) → Prop} {xs : List α} (c : List α → σ) {Q : σ → Prop} (hs : ∀ pre x post, xs = pre ++ x :: post → ∀ K : Bool → σ → Prop, K true (c (pre ++ [x])) → Y x (c pre) K) (hQ : Q (c xs)) : yfold Y xs (c []) Q := by
  have : ∀ post pre, xs = pre ++ post → yfold Y post (c pre) Q := by
    intro post
    induction post with
    | nil => intro pre e; rw [List.append_nil] at e; subst e; exact hQ
    | cons x post ih =>
      intro pre e
      unfold yfold
      refine hs pre x post e _ ?_
      rw [if_pos rfl]
      exact ih _ (by rw [e]; simp)
  exact this xs [] rfl

theorem of_w' (s : ByteArray) (hs : s.size ≤ big) {Q : ByteArray → Prop} (h : Q (lowS s)) : seek_of.w s Q := Low_w s hs h

def hit (word : ByteArray) (x : Int × ByteArray) : Bool := decide (lowS x.2 = lowS word)
def atW (ts : List ApiTok) (word : ByteArray) : List Int := ((words ts).filter (hit word)).map (·.1)
theorem filter_snoc {α : Type} (p : α → Bool) (l : List α) (x : α) : (l ++ [x]).filter p = l.filter p ++ if p x = true then [x] else [] := by
  rw [List.filter_append]; congr 1; rw [List.filter_cons, List.filter_nil]

theorem At_w (ts : List ApiTok) (hb : Toks ts) (hn : ts.length ≤ 1000000) (word : ByteArray) (hw : word.size ≤ 1000000) {Q : List Int → Prop} (h : Q (atW ts word)) : seek_At.w ts word Q := by
  unfold seek_At.w seek_Words.w
  have hl := words_length ts
  refine Words_w ?_ ts hb (by unfold big; omega) _ (yfold_closed (fun pre : List (Int × ByteArray) => (((pre.filter (hit word)).map (fun x : Int × ByteArray => x.1) : List Int), (0 : Nat))) ?_ h)
  · rintro ⟨v1, v2⟩ ⟨a1, n1⟩ K K' hK ⟨h0, r2, h2, r3, h3, h4⟩
    refine ⟨h0, r2, h2, r3, h3, ?_⟩
    split at h4
    · rename_i e; rw [if_pos e]; exact ⟨h4.1, hK _ _ h4.2⟩
    · rename_i e; rw [if_neg e]; exact hK _ _ h4
  · rintro pre ⟨p, s⟩ post e K hK
    have hsz := word_size (ts := ts) (x := (p, s)) (by rw [e]; simp)
    dsimp only at hsz
    refine ⟨rfl, lowS s, of_w' s (by unfold big; omega) rfl, lowS word, of_w' word (by unfold big; omega) rfl, ?_⟩
    rw [filter_snoc] at hK
    have hlen : (pre.filter (hit word)).length ≤ pre.length := List.length_filter_le _ _
    have := congrArg List.length e
    simp only [List.length_append, List.length_cons] at this
    split
    · rename_i e1
      rw [if_pos (by simpa [hit] using e1)] at hK
      refine ⟨by simp only [List.length_map, List.length_cons, List.length_nil]; omega, by simpa using hK⟩
    · rename_i e1
      rw [if_neg (by simpa [hit] using e1)] at hK
      simpa using hK

theorem rAt_w (ts : List ApiTok) (hb : Toks ts) (hn : ts.length ≤ 1000000) (word : ByteArray) (hw : word.size ≤ 1000000) {Q : List Int → Prop} (h : Q (atW ts word)) : stylusref33_At.w ts word Q := by
  unfold stylusref33_At.w
  refine rWords_w ts hb hn ?_
  have hl := words_length ts
  have hm : ((words ts).map mkW).length = (words ts).length := List.length_map _
  refine wfor (fun s => s.2) (fun n => ((((words ts).take n).filter (hit word)).map (·.1), (n : Int))) (words ts).length (fun _ => True) (fun _ _ => rfl) rfl trivial ?_ ?_
  · intro n hn' _ K hK
    dsimp only
    unfold wcut
    rw [if_pos (by omega)]
    have hlen : (((words ts).take n).filter (hit word)).length ≤ n := Nat.le_trans (List.length_filter_le _ _) (by simp; omega)
    have hsz := word_size (ts := ts) (x := (words ts)[n]) (List.getElem_mem _)
    refine ⟨by omega, mkW (words ts)[n], by rw [Int.toNat_natCast]; simp [hn'], rLow_w _ (show (words ts)[n].2.size ≤ 1000000 by omega) (rLow_w word hw ?_)⟩
    have e : (words ts).take (n + 1) = (words ts).take n ++ [(words ts)[n]] := by rw [List.take_add_one]; simp [hn']
    have hK := hK trivial
    rw [e, filter_snoc] at hK
    split
    · rename_i e1
      rw [if_pos (by simpa [hit, mkW] using e1)] at hK
      refine ⟨by simp only [List.length_map, List.length_cons, List.length_nil]; omega, i64_lt (by omega) (by omega), by simpa [mkW] using hK⟩
    · rename_i e1
      rw [if_neg (by simpa [hit, mkW] using e1)] at hK
      exact ⟨i64_lt (by omega) (by omega), by simpa using hK⟩
  · intro _ K
    dsimp only
    rw [if_neg (by omega), List.take_length]; exact h

/-! ### the index -/
def bl (a b : ByteArray) : Prop := a.data.toList < b.data.toList
theorem bl_op (a b : ByteArray) : (Op.bytesLess a.toList b.toList = true) ↔ bl a b := by
  rw [Go.Proofs.bytesLess_eq, Go.ByteArray.toList_eq, Go.ByteArray.toList_eq]; simp [bl]
theorem bl_irrefl (a : ByteArray) : ¬ bl a a := List.lt_irrefl _
theorem bl_trans {a b c : ByteArray} (h : bl a b) (h' : bl b c) : bl a c := List.lt_trans h h'
theorem bl_tri (a b : ByteArray) : bl a b ∨ a = b ∨ bl b a := by
  unfold bl
  by_cases h : a.data.toList < b.data.toList
  · exact Or.inl h
  · have h := List.not_lt.1 h
    rcases List.le_iff_lt_or_eq.1 h with h | h
    · exact Or.inr (Or.inr h)
    · exact Or.inr (Or.inl (ByteArray.ext (Array.toList_inj.1 h.symm)))
abbrev Srt (l : List ByteArray) : Prop := l.Pairwise bl
theorem srt_unique : ∀ {a b : List ByteArray}, Srt a → Srt b → (∀ x, x ∈ a ↔ x ∈ b) → a = b
  | [], [], _, _, _ => rfl
  | [], y :: b, _, _, h => by have := (h y).2 (by simp); simp at this
  | x :: a, [], _, _, h => by have := (h x).1 (by simp); simp at this
  | x :: a, y :: b, ha, hb, h => by
    have ha := List.pairwise_cons.1 ha
    have hb := List.pairwise_cons.1 hb
    have e : x = y := by
      rcases List.mem_cons.1 ((h x).1 (by simp)) with e | h1
      · exact e
      rcases List.mem_cons.1 ((h y).2 (by simp)) with e | h2
      · exact e.symm
      exact absurd (bl_trans (ha.1 y h2) (hb.1 x h1)) (bl_irrefl _)
    subst e
    rw [srt_unique ha.2 hb.2 fun z => ?_]
    constructor
    · intro hz
      rcases List.mem_cons.1 ((h z).1 (List.mem_cons_of_mem _ hz)) with e | h1
      · subst e; exact absurd (ha.1 _ hz) (bl_irrefl _)
      · exact h1
    · intro hz
      rcases List.mem_cons.1 ((h z).2 (List.mem_cons_of_mem _ hz)) with e | h1
      · subst e; exact absurd (hb.1 _ hz) (bl_irrefl _)
      · exact h1
theorem mem_sortB (l : List ByteArray) (x : ByteArray) : x ∈ sortB l ↔ x ∈ l := by
  unfold sortB
  simp only [List.mem_map, (List.mergeSort_perm _ _).mem_iff]
  constructor
  · rintro ⟨_, ⟨y, hy, rfl⟩, rfl⟩
    exact hy
  · intro h
    exact ⟨_, ⟨x, h, rfl⟩, rfl⟩
theorem sortB_srt {l : List ByteArray} (h : l.Nodup) : Srt (sortB l) := by
  have hp := List.pairwise_mergeSort (le := fun x y : List UInt8 => decide (x ≤ y)) (fun a b c h1 h2 => decide_eq_true (List.le_trans (of_decide_eq_true h1) (of_decide_eq_true h2)))
    (fun a b => by rcases List.le_total a b with h | h <;> simp [h]) (l.map fun s => s.data.toList)
  have hn : ((l.map fun s => s.data.toList).mergeSort fun x y => decide (x ≤ y)).Nodup := by
    rw [(List.mergeSort_perm _ _).nodup_iff]
    exact List.Pairwise.map _ (fun a b hab e => hab (ByteArray.ext (Array.toList_inj.1 e))) h
  unfold sortB
  refine List.Pairwise.map _ ?_ (hp.and hn)
  rintro a b ⟨h1, h2⟩
  rcases List.le_iff_lt_or_eq.1 (of_decide_eq_true h1) with h | h
  · exact h
  · exact absurd h h2
def IsIndex (xs : List (Int × ByteArray)) (l : List ByteArray) : Prop := Srt l ∧ ∀ x, x ∈ l ↔ ∃ y ∈ xs, lowS y.2 = x

theorem aset_keys {α β : Type} [DecidableEq α] (k : α) (v : β) : ∀ m : List (α × β), (aset m k v).map (·.1) = if k ∈ m.map (·.1) then m.map (·.1) else m.map (·.1) ++ [k]
  | [] => by simp [aset]
  | p :: m => by
    unfold aset
    split
    · rename_i e; subst e; simp
    · rename_i e
      rw [List.map_cons, aset_keys k v m]
      simp only [List.map_cons, List.mem_cons, e, false_or]
      split <;> simp
theorem aset_vals {α : Type} [DecidableEq α] (k : α) (v b : Int) (hv : 0 ≤ v ∧ v ≤ b) : ∀ m : List (α × Int), (∀ p ∈ m, 0 ≤ p.2 ∧ p.2 ≤ b) → ∀ p ∈ aset m k v, 0 ≤ p.2 ∧ p.2 ≤ b
  | [], _ => by simpa [aset] using hv
  | q :: m, h => by
    unfold aset
    have h := List.forall_mem_cons.1 h
    split
    · exact List.forall_mem_cons.2 ⟨hv, h.2⟩
    · exact List.forall_mem_cons.2 ⟨h.1, aset_vals k v b hv m h.2⟩
theorem aget_vals {α : Type} [DecidableEq α] (k : α) (b : Int) (hb : 0 ≤ b) : ∀ m : List (α × Int), (∀ p ∈ m, 0 ≤ p.2 ∧ p.2 ≤ b) → 0 ≤ (aget m k).getD 0 ∧ (aget m k).getD 0 ≤ b
  | [], _ => by simpa [aget] using hb
  | q :: m, h => by
    unfold aget
    have h := List.forall_mem_cons.1 h
    split
    · exact h.1
    · exact aget_vals k b hb m h.2
def tally (m : List (ByteArray × Int)) (x : Int × ByteArray) : List (ByteArray × Int) := aset m (lowS x.2) ((aget m (lowS x.2)).getD 0 + 1)
def cnt (pre : List (Int × ByteArray)) : List (ByteArray × Int) := pre.foldl tally []
theorem cnt_snoc (pre : List (Int × ByteArray)) (x : Int × ByteArray) : cnt (pre ++ [x]) = tally (cnt pre) x := by simp [cnt]
theorem cnt_facts (pre : List (Int × ByteArray)) : (∀ p ∈ cnt pre, 0 ≤ p.2 ∧ p.2 ≤ (pre.length : Int)) ∧ ((cnt pre).map (·.1)).Nodup ∧ (∀ x, x ∈ (cnt pre).map (·.1) ↔ ∃ y ∈ pre, lowS y.2 = x) ∧ (cnt pre).length ≤ pre.length := by
  have : ∀ (n : Nat) (pre : List (Int × ByteArray)), pre.length = n → (∀ p ∈ cnt pre, 0 ≤ p.2 ∧ p.2 ≤ (pre.length : Int)) ∧ ((cnt pre).map (·.1)).Nodup ∧ (∀ x, x ∈ (cnt pre).map (·.1) ↔ ∃ y ∈ pre, lowS y.2 = x) ∧ (cnt pre).length ≤ pre.length := by
    intro n
    induction n with
    | zero =>
      intro pre h
      have := List.length_eq_zero_iff.1 h
      subst this
      simp [cnt]
    | succ n ih =>
      intro pre h
      obtain ⟨pre, x, rfl⟩ : ∃ p x, pre = p ++ [x] := by
        rcases List.eq_nil_or_concat pre with h0 | ⟨p, x, h0⟩
        · subst h0; simp at h
        · exact ⟨p, x, by rw [h0]; try simp⟩
      simp only [List.length_append, List.length_cons, List.length_nil] at h ⊢
      obtain ⟨i1, i2, i3, i4⟩ := ih pre (by omega)
      rw [cnt_snoc]
      unfold tally
      have hv := aget_vals (lowS x.2) (pre.length : Int) (by omega) _ i1
      have hk := aset_keys (lowS x.2) ((aget (cnt pre) (lowS x.2)).getD 0 + 1) (cnt pre)
      have hlen := congrArg List.length hk
      refine ⟨?_, ?_, ?_, ?_⟩
      · have := aset_vals (lowS x.2) ((aget (cnt pre) (lowS x.2)).getD 0 + 1) ((pre.length : Int) + 1) (by omega) (cnt pre) (fun p hp => by have := i1 p hp; omega)
        intro p hp
        have := this p hp
        push_cast; omega
      · rw [hk]
        split
        · exact i2
        · rename_i e
          refine List.nodup_append.2 ⟨i2, by simp, ?_⟩
          intro a ha b hb
          rw [List.mem_singleton] at hb
          subst hb
          rintro rfl
          exact e ha
      · intro z
        rw [hk]
        have key : (∃ y, y ∈ pre ++ [x] ∧ lowS y.2 = z) ↔ (∃ y ∈ pre, lowS y.2 = z) ∨ lowS x.2 = z := by
          constructor
          · rintro ⟨y, hy, e⟩
            rcases List.mem_append.1 hy with h | h
            · exact Or.inl ⟨y, h, e⟩
            · rw [List.mem_singleton] at h; subst h; exact Or.inr e
          · rintro (⟨y, hy, e⟩ | e)
            · exact ⟨y, List.mem_append_left _ hy, e⟩
            · exact ⟨x, by simp, e⟩
        rw [key, ← i3]
        split
        · rename_i e
          constructor
          · exact Or.inl
          · rintro (h | h)
            · exact h
            · rw [← h]; exact e
        · rw [List.mem_append, List.mem_singleton]
          constructor
          · rintro (h | h)
            · exact Or.inl h
            · exact Or.inr h.symm
          · rintro (h | h)
            · exact Or.inl h
            · exact Or.inr h.symm
      · simp only [List.length_map] at hlen
        rw [hlen]
        split
        · simp; omega
        · simp; omega
  exact this _ pre rfl

theorem left_nil {n : Nat} {seen : Array Nat} (h : leftIx n seen = []) : ∀ i, i < n → i ∈ seen := by
  intro i hi
  unfold leftIx at h
  rw [List.filter_eq_nil_iff] at h
  have := h i (List.mem_range.2 hi)
  simpa using this
theorem left_mem' {n i : Nat} {seen : Array Nat} (h : i ∈ leftIx n seen) : i < n ∧ i ∉ seen := by
  unfold leftIx at h
  simp only [List.mem_filter, List.mem_range] at h
  simpa using h

theorem Index_w (ts : List ApiTok) (hb : Toks ts) (hn : ts.length ≤ 1000000) {Q : List ByteArray → Prop} (h : ∀ l, IsIndex (words ts) l → l.length ≤ ts.length → Q l) : seek_Index.w ts Q := by
  unfold seek_Index.w seek_Words.w
  have hl := words_length ts
  refine Words_w ?_ ts hb (by unfold big; omega) _ (yfold_closed (fun pre => (cnt pre, 0)) ?_ ?_)
  · rintro ⟨v1, v2⟩ ⟨a1, n1⟩ K K' hK ⟨h0, r2, h2, h3, h4⟩
    exact ⟨h0, r2, h2, h3, hK _ _ h4⟩
  · rintro pre ⟨p, s⟩ post e K hK
    have hsz := word_size (ts := ts) (x := (p, s)) (by rw [e]; simp)
    dsimp only at hsz
    obtain ⟨i1, i2, i3, i4⟩ := cnt_facts pre
    have := congrArg List.length e
    simp only [List.length_append, List.length_cons] at this
    have hv := aget_vals (lowS s) (pre.length : Int) (by omega) _ i1
    refine ⟨rfl, lowS s, of_w' s (by unfold big; omega) rfl, i64_lt (by omega) (by omega), ?_⟩
    rw [cnt_snoc] at hK
    exact hK
  obtain ⟨i1, i2, i3, i4⟩ := cnt_facts (words ts)
  generalize cnt (words ts) = m at i1 i2 i3 i4
  dsimp only
  unfold wcut
  have nd : ∀ i j (hi : i < m.length) (hj : j < m.length), m[i].1 = m[j].1 → i = j := by
    intro i j hi hj e
    have := (List.getElem_inj (h₀ := by simpa using hi) (h₁ := by simpa using hj) i2).1 (by simpa using e)
    exact this
  refine ⟨fun s => ∃ js : List Nat, s.2 = js.toArray ∧ js.Nodup ∧ (∀ j ∈ js, j < m.length) ∧ s.1 = js.map (fun j => (m[j]?.map (·.1)).getD (ByteArray.mk #[])),
    fun s => m.length - s.2.size, ⟨[], rfl, List.nodup_nil, by simp, rfl⟩, ?_⟩
  rintro ⟨a3, a4⟩ ⟨js, e1, hnd, hlt, e2⟩
  dsimp only at e1 e2 ⊢
  subst e1 e2
  have hjs : js.length ≤ m.length := by
    have := hnd.length_le_of_subset (fun x hx => List.mem_range.2 (hlt x hx) : js ⊆ List.range m.length)
    simpa using this
  constructor
  · intro hnil
    have hall := left_nil hnil
    have hnd3 : (js.map (fun j => (m[j]?.map (·.1)).getD (ByteArray.mk #[]))).Nodup := by
      refine List.Pairwise.map _ ?_ (List.Pairwise.and_mem.1 hnd)
      rintro a b ⟨ha, hb, hab⟩ e
      have ha := hlt a ha
      have hb := hlt b hb
      simp only [List.getElem?_eq_getElem ha, List.getElem?_eq_getElem hb, Option.map_some, Option.getD_some] at e
      exact hab (nd a b ha hb e)
    refine ⟨by simp; omega, h _ ⟨sortB_srt hnd3, fun x => ?_⟩ (by rw [sortB_length, List.length_map]; omega)⟩
    rw [mem_sortB, ← i3]
    constructor
    · intro hx
      obtain ⟨j, hj, rfl⟩ := List.mem_map.1 hx
      have hj := hlt j hj
      simp only [List.getElem?_eq_getElem hj, Option.map_some, Option.getD_some]
      exact List.mem_map.2 ⟨m[j], List.getElem_mem _, rfl⟩
    · intro hx
      obtain ⟨p, hp, rfl⟩ := List.mem_map.1 hx
      obtain ⟨j, hj, rfl⟩ := List.getElem_of_mem hp
      exact List.mem_map.2 ⟨j, by simpa using hall j hj, by simp [hj]⟩
  · intro i hi v3 hv
    obtain ⟨hi1, hi2⟩ := left_mem' hi
    have hi2 : i ∉ js := by simpa using hi2
    have hlt2 : js.length < m.length := by
      have := (List.nodup_cons.2 ⟨hi2, hnd⟩).length_le_of_subset (fun x hx => by
        rcases List.mem_cons.1 hx with rfl | hx
        · exact List.mem_range.2 hi1
        · exact List.mem_range.2 (hlt x hx) : i :: js ⊆ List.range m.length)
      simp only [List.length_cons, List.length_range] at this; omega
    refine ⟨by simp; omega, ⟨js ++ [i], by simp, ?_, ?_, ?_⟩, by simp; omega⟩
    · refine List.nodup_append.2 ⟨hnd, by simp, ?_⟩
      intro a ha b hb
      rw [List.mem_singleton] at hb
      subst hb
      rintro rfl
      exact hi2 ha
    · intro j hj
      rcases List.mem_append.1 hj with hj | hj
      · exact hlt j hj
      · rw [List.mem_singleton] at hj; subst hj; exact hi1
    · rw [List.map_append]
      simp [hv]

theorem srt_insert {l : List ByteArray} {x : ByteArray} {m : Nat} (h : Srt l) (h1 : ∀ y ∈ l.take m, bl y x) (h2 : ∀ y ∈ l.drop m, bl x y) : Srt (l.take m ++ ([x] ++ l.drop m)) := by
  have h' : Srt (l.take m ++ l.drop m) := by rw [List.take_append_drop]; exact h
  have h' := List.pairwise_append.1 h'
  refine List.pairwise_append.2 ⟨h'.1, List.pairwise_append.2 ⟨by simp, h'.2.1, ?_⟩, ?_⟩
  · intro a ha b hb
    rw [List.mem_singleton] at ha; subst ha; exact h2 b hb
  · intro a ha b hb
    rcases List.mem_append.1 hb with hb | hb
    · rw [List.mem_singleton] at hb; subst hb; exact h1 a ha
    · exact h'.2.2 a ha b hb

theorem place {a1 : List ByteArray} {r2 : ByteArray} {m : Nat} (hs : Srt a1) (hm : m ≤ a1.length) (hl : a1.length ≤ 1000000) (h1 : ∀ i (hi : i < a1.length), i < m → bl a1[i] r2) (h2 : ∀ h : m < a1.length, ¬ bl a1[m] r2) {K : List ByteArray → Prop}
    (hK : ∀ l : List ByteArray, Srt l → (∀ z, z ∈ l ↔ z ∈ a1 ∨ z = r2) → l.length ≤ a1.length + 1 → K l) :
    if (m : Int) < (a1.length : Int) then
      (0 ≤ (m : Int)) ∧ ∃ v3 : ByteArray, a1[(m : Int).toNat]? = some v3 ∧
      if v3 = r2 then K a1 else
        (0 ≤ (m : Int)) ∧ (0 ≤ (m : Int).toNat ∧ (m : Int).toNat ≤ a1.length) ∧ ((m : Int).toNat ≤ a1.length ∧ a1.length ≤ a1.length) ∧
        ((([r2] : List ByteArray).length + (a1.drop (m : Int).toNat).length) * 16 ≤ 140737488355328) ∧
        (((a1.take (m : Int).toNat).length + (([r2] : List ByteArray) ++ (a1.drop (m : Int).toNat)).length) * 16 ≤ 140737488355328) ∧
        K ((a1.take (m : Int).toNat) ++ (([r2] : List ByteArray) ++ (a1.drop (m : Int).toNat)))
    else
      (0 ≤ (m : Int)) ∧ (0 ≤ (m : Int).toNat ∧ (m : Int).toNat ≤ a1.length) ∧ ((m : Int).toNat ≤ a1.length ∧ a1.length ≤ a1.length) ∧
      ((([r2] : List ByteArray).length + (a1.drop (m : Int).toNat).length) * 16 ≤ 140737488355328) ∧
      (((a1.take (m : Int).toNat).length + (([r2] : List ByteArray) ++ (a1.drop (m : Int).toNat)).length) * 16 ≤ 140737488355328) ∧
      K ((a1.take (m : Int).toNat) ++ (([r2] : List ByteArray) ++ (a1.drop (m : Int).toNat))) := by
  have tail : (∀ y ∈ a1.drop m, bl r2 y) → (0 ≤ (m : Int)) ∧ (0 ≤ (m : Int).toNat ∧ (m : Int).toNat ≤ a1.length) ∧ ((m : Int).toNat ≤ a1.length ∧ a1.length ≤ a1.length) ∧
        ((([r2] : List ByteArray).length + (a1.drop (m : Int).toNat).length) * 16 ≤ 140737488355328) ∧
        (((a1.take (m : Int).toNat).length + (([r2] : List ByteArray) ++ (a1.drop (m : Int).toNat)).length) * 16 ≤ 140737488355328) ∧
        K ((a1.take (m : Int).toNat) ++ (([r2] : List ByteArray) ++ (a1.drop (m : Int).toNat))) := by
    intro ht
    rw [Int.toNat_natCast]
    refine ⟨by omega, ⟨by omega, hm⟩, ⟨hm, Nat.le_refl _⟩, by simp; omega, by simp; omega, hK _ (srt_insert hs ?_ ht) ?_ (by simp; omega)⟩
    · intro y hy
      obtain ⟨i, hi, rfl⟩ := List.getElem_of_mem hy
      rw [List.length_take] at hi
      rw [List.getElem_take]
      exact h1 i (by omega) (by omega)
    · intro z
      conv => rhs; rw [← List.take_append_drop m a1]
      simp only [List.mem_append, List.mem_singleton]
      constructor
      · rintro (h | h | h)
        · exact Or.inl (Or.inl h)
        · exact Or.inr h
        · exact Or.inl (Or.inr h)
      · rintro ((h | h) | h)
        · exact Or.inl h
        · exact Or.inr (Or.inr h)
        · exact Or.inr (Or.inl h)
  by_cases hlt : m < a1.length
  · rw [if_pos (by omega)]
    refine ⟨by omega, a1[m], get_some a1 hlt, ?_⟩
    split
    · rename_i e
      refine hK _ hs (fun z => ⟨Or.inl, ?_⟩) (by omega)
      rintro (h | h)
      · exact h
      · rw [h, ← e]; exact List.getElem_mem _
    · rename_i e
      refine tail ?_
      have hb : bl r2 a1[m] := by
        rcases bl_tri a1[m] r2 with h | h | h
        · exact absurd h (h2 hlt)
        · exact absurd h e
        · exact h
      intro y hy
      rw [List.drop_eq_getElem_cons hlt] at hy
      have hd : Srt (a1.drop m) := hs.sublist (List.drop_sublist _ _)
      rw [List.drop_eq_getElem_cons hlt] at hd
      rcases List.mem_cons.1 hy with rfl | hy
      · exact hb
      · exact bl_trans hb ((List.pairwise_cons.1 hd).1 y hy)
  · rw [if_neg (by omega)]
    exact tail (by rw [List.drop_of_length_le (by omega)]; simp)

theorem rIndex_w (ts : List ApiTok) (hb : Toks ts) (hn : ts.length ≤ 1000000) {Q : List ByteArray → Prop} (h : ∀ l, IsIndex (words ts) l → Q l) : stylusref33_Index.w ts Q := by
  unfold stylusref33_Index.w
  refine rWords_w ts hb hn ?_
  have hl := words_length ts
  have hm : ((words ts).map mkW).length = (words ts).length := List.length_map _
  refine ⟨fun s => ∃ n, n ≤ (words ts).length ∧ s.2 = (n : Int) ∧ s.1.length ≤ n ∧ IsIndex ((words ts).take n) s.1, fun s => ((words ts).length - s.2).toNat, ⟨0, by omega, rfl, by simp, by simp [IsIndex]⟩, ?_⟩
  rintro ⟨a1, a2⟩ ⟨n, hn1, e1, hlen, hix⟩
  dsimp only at e1 hix hlen ⊢
  subst e1
  unfold wcut
  dsimp only
  split
  rotate_left
  · rename_i h0
    have : n = (words ts).length := by omega
    subst this
    rw [List.take_length] at hix
    exact h _ hix
  rename_i h0
  have hn' : n < (words ts).length := by omega
  have hsz := word_size (ts := ts) (x := (words ts)[n]) (List.getElem_mem _)
  refine ⟨by omega, mkW (words ts)[n], by rw [Int.toNat_natCast]; simp [hn'], rLow_w _ (show (words ts)[n].2.size ≤ 1000000 by omega) ?_⟩
  have et : (words ts).take (n + 1) = (words ts).take n ++ [(words ts)[n]] := by rw [List.take_add_one]; simp [hn']
  have mem : ∀ z, (∃ y ∈ (words ts).take (n + 1), lowS y.2 = z) ↔ (z ∈ a1 ∨ z = lowS (words ts)[n].2) := by
    intro z
    rw [et, hix.2]
    constructor
    · rintro ⟨y, hy, e⟩
      rcases List.mem_append.1 hy with h | h
      · exact Or.inl ⟨y, h, e⟩
      · rw [List.mem_singleton] at h; subst h; exact Or.inr e.symm
    · rintro (⟨y, hy, e⟩ | e)
      · exact ⟨y, List.mem_append_left _ hy, e⟩
      · exact ⟨(words ts)[n], List.mem_append_right _ (List.mem_singleton.2 rfl), e.symm⟩
  generalize lowS (words ts)[n].2 = r2 at mem ⊢
  have done : ∀ l : List ByteArray, Srt l → (∀ z, z ∈ l ↔ z ∈ a1 ∨ z = r2) → l.length ≤ a1.length + 1 →
      I64 ((n : Int) + 1) ∧ (∃ n_1, n_1 ≤ (words ts).length ∧ (n : Int) + 1 = n_1 ∧ l.length ≤ n_1 ∧ IsIndex ((words ts).take n_1) l) ∧ (((words ts).length : Int) - ((n : Int) + 1)).toNat < (((words ts).length : Int) - (n : Int)).toNat :=
    fun l h1 h2 h3 => ⟨i64_lt (by omega) (by omega), ⟨n + 1, by omega, by omega, by omega, h1, fun z => by rw [h2, mem]⟩, by omega⟩
  have plc := fun m hm i1 i2 => place (r2 := r2) (m := m) hix.1 hm (by omega) i1 i2 done
  refine ⟨fun s => ∃ m, m ≤ a1.length ∧ s.2 = (m : Int) ∧ s.1 = a1 ∧ ∀ i (hi : i < a1.length), i < m → bl a1[i] r2, fun s => (a1.length - s.2).toNat, ⟨0, by omega, rfl, rfl, by simp⟩, ?_⟩
  rintro ⟨a6, a7⟩ ⟨m, hm, f1, f2, f3⟩
  dsimp only at f1 f2 ⊢
  subst f1 f2
  by_cases hlt : m < a6.length
  · rw [if_pos (by omega)]
    refine ⟨by omega, a6[m], get_some a6 hlt, ?_⟩
    split
    · rename_i e
      refine ⟨i64_lt (by omega) (by omega), ⟨m + 1, by omega, by omega, rfl, ?_⟩, by omega⟩
      intro i hi him
      rcases Nat.lt_succ_iff_lt_or_eq.1 him with h1 | rfl
      · exact f3 i hi h1
      · exact (bl_op _ _).1 e
    · rename_i e
      exact plc m hm f3 (fun h => fun hb => e ((bl_op _ _).2 hb))
  · rw [if_neg (by omega)]
    exact plc m hm f3 (fun h => by omega)
end Go.Proofs.Ytnenodamppageaa
