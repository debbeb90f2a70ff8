/- the laws SeekWords and SeekJoined, plainly. -/
import Derived.Test.YtnenodamppageaaSkc
namespace Go.Proofs.Ytnenodamppageaa
open Go Go.Proofs.Ytnenodamppageaa.AM
set_option linter.unusedVariables false
set_option linter.unusedSimpArgs false

theorem row_w (a : List Int) (hn : a.length ≤ big) {Q : Bool → Prop} (h : Q true) : styluslaw33_row.w a a Q := by
  unfold styluslaw33_row.w
  unfold big at hn
  rw [if_pos rfl]
  refine wfor (fun i => i) (fun n => (n : Int)) a.length (fun _ => True) (fun _ _ => rfl) rfl trivial ?_ ?_
  · intro n hn' _ K hK
    try dsimp only
    rw [if_pos (by omega)]
    refine ⟨by omega, a[n], get_some a hn', a[n], get_some a hn', ?_⟩
    rw [if_pos rfl]
    exact ⟨i64_lt (by omega) (by omega), by have := hK trivial; exact_mod_cast this⟩
  · intro _ K
    try dsimp only
    rw [if_neg (by omega)]; exact h
theorem texts_w (a : List ByteArray) (hn : a.length ≤ big) {Q : Bool → Prop} (h : Q true) : styluslaw33_texts.w a a Q := by
  unfold styluslaw33_texts.w
  unfold big at hn
  rw [if_pos rfl]
  refine wfor (fun i => i) (fun n => (n : Int)) a.length (fun _ => True) (fun _ _ => rfl) rfl trivial ?_ ?_
  · intro n hn' _ K hK
    try dsimp only
    rw [if_pos (by omega)]
    refine ⟨by omega, a[n], get_some a hn', a[n], get_some a hn', ?_⟩
    rw [if_pos rfl]
    exact ⟨i64_lt (by omega) (by omega), by have := hK trivial; exact_mod_cast this⟩
  · intro _ K
    try dsimp only
    rw [if_neg (by omega)]; exact h

def tokOf (c : Int) : ApiTok := if c = 41 then ⟨3, 101, 0⟩ else if c = 40 then ⟨2, 101, 0⟩ else ⟨1, c, 0⟩
def saidT (s : ByteArray) : List ApiTok := ((⟨2, 112, 0⟩ : ApiTok) :: (strInts s).map tokOf) ++ [⟨3, 112, 0⟩]
theorem said_w (s : ByteArray) (hs : s.size ≤ 1000000) {Q : List ApiTok → Prop} (h : Q (saidT s)) : styluslaw33_said.w s Q := by
  unfold styluslaw33_said.w
  have hl := strInts_length s
  refine wfor (fun s => s.2) (fun n => ((⟨2, 112, 0⟩ : ApiTok) :: ((strInts s).take n).map tokOf, (n : Int))) s.size (fun _ => True) (fun _ _ => rfl) rfl trivial ?_ ?_
  · intro n hn _ K hK
    try dsimp only
    unfold wcut
    rw [if_pos (by omega)]
    refine ⟨by omega, _, bget s hn, ?_⟩
    have e : (strInts s).take (n + 1) = (strInts s).take n ++ [((s.data.toList[n]'hn).toNat : Int)] := by
      rw [List.take_add_one]
      congr 1
      simp [strInts, hn, size_list]
    have hK := hK trivial
    rw [e] at hK
    generalize ((s.data.toList[n]'hn).toNat : Int) = c at hK ⊢
    have fin : ∀ t, t = tokOf c → (((⟨2, 112, 0⟩ : ApiTok) :: ((strInts s).take n).map tokOf).length + ([t] : List ApiTok).length) * 24 ≤ 140737488355328 ∧ I64 ((n : Int) + 1) ∧ K (((⟨2, 112, 0⟩ : ApiTok) :: ((strInts s).take n).map tokOf) ++ [t], (n : Int) + 1) := by
      rintro t rfl
      refine ⟨by simp; omega, i64_lt (by omega) (by omega), ?_⟩
      simpa using hK
    dsimp only
    by_cases e1 : c = 40
    · rw [if_pos e1, if_neg (by omega)]; exact fin _ (by subst e1; rfl)
    · rw [if_neg e1]
      by_cases e2 : c = 41
      · rw [if_pos e2]; exact fin _ (by subst e2; rfl)
      · rw [if_neg e2]; exact fin _ (by unfold tokOf; rw [if_neg e2, if_neg e1])
  · intro _ K
    try dsimp only
    rw [if_neg (by omega)]
    have e1 : (strInts s).take s.size = strInts s := List.take_of_length_le (by omega)
    rw [e1]
    exact ⟨by simp; omega, h⟩

def awT : List ApiTok := saidT ⟨#[79, 110, 101, 32, 116, 119, 111, 45, 111, 110, 101, 32, 40, 111, 41, 110, 101]⟩
def awX : List ByteArray := [⟨#[110, 101]⟩, ⟨#[111]⟩, ⟨#[111, 110, 101]⟩, ⟨#[116, 119, 111]⟩]
theorem awT_len : awT.length = 19 := by decide +kernel
theorem awT_toks : Toks awT := by unfold Toks; decide +kernel
theorem aw_words : words awT = [(1, ⟨#[79, 110, 101]⟩), (5, ⟨#[116, 119, 111]⟩), (9, ⟨#[111, 110, 101]⟩), (14, ⟨#[111]⟩), (16, ⟨#[110, 101]⟩)] := by decide +kernel
theorem aw_at1 : atW awT ⟨#[111, 110, 101]⟩ = [1, 9] := by decide +kernel
theorem aw_at2 : atW awT ⟨#[116, 119, 111, 45, 111, 110, 101]⟩ = [] := by decide +kernel
theorem aw_at3 : atW awT ⟨#[]⟩ = [] := by decide +kernel
theorem aw_low : (words awT).map (fun y => lowS y.2) = [⟨#[111, 110, 101]⟩, ⟨#[116, 119, 111]⟩, ⟨#[111, 110, 101]⟩, ⟨#[111]⟩, ⟨#[110, 101]⟩] := by decide +kernel
theorem aw_index : IsIndex (words awT) awX := by
  refine ⟨?_, fun x => ?_⟩
  · unfold Srt bl awX; decide +kernel
  · have : (∃ y ∈ words awT, lowS y.2 = x) ↔ x ∈ (words awT).map (fun y => lowS y.2) := by rw [List.mem_map]
    rw [this, aw_low]
    unfold awX
    simp only [List.mem_cons, List.not_mem_nil, or_false]
    constructor
    · rintro (h | h | h | h) <;> simp [h]
    · rintro (h | h | h | h | h) <;> simp [h]

theorem awake_w {Q : Bool → Prop} (h : Q true) : styluslaw33_awake.w Q := by
  unfold styluslaw33_awake.w
  refine said_w _ (by decide) ?_
  rw [show saidT ⟨#[79, 110, 101, 32, 116, 119, 111, 45, 111, 110, 101, 32, 40, 111, 41, 110, 101]⟩ = awT from rfl]
  unfold seek_Words.w
  have hl := awT_len
  have hn : awT.length ≤ 1000000 := by omega
  refine Words_w ?_ awT awT_toks (by unfold big; omega) _ (yfold_closed (fun pre : List (Int × ByteArray) => ((pre.map (fun x : Int × ByteArray => x.1) : List Int), (0 : Nat))) ?_ ?_)
  · rintro ⟨v1, v2⟩ ⟨a1, n1⟩ K K' hK ⟨h0, h1, h2⟩
    exact ⟨h0, h1, hK _ _ h2⟩
  · rintro pre ⟨p, s⟩ post e K hK
    have := congrArg List.length e
    have hw := words_length awT
    simp only [List.length_append, List.length_cons] at this
    refine ⟨rfl, by simp; omega, by simpa using hK⟩
  rw [aw_words]
  refine row_w [1, 5, 9, 14, 16] (by decide) ?_
  rw [if_pos rfl]
  refine At_w awT awT_toks hn _ (by decide) ?_
  rw [aw_at1]
  refine row_w _ (by decide) ?_
  rw [if_pos rfl]
  refine At_w awT awT_toks hn _ (by decide) ?_
  rw [aw_at2]
  rw [if_pos (by decide)]
  refine At_w awT awT_toks hn _ (by decide) ?_
  rw [aw_at3]
  rw [if_pos (by decide)]
  refine Index_w awT awT_toks hn fun l hi _ => ?_
  have : l = awX := srt_unique hi.1 aw_index.1 fun x => by rw [hi.2, aw_index.2]
  subst this
  exact texts_w awX (by decide) h

theorem atW_length (ts : List ApiTok) (w : ByteArray) : (atW ts w).length ≤ ts.length := by
  unfold atW
  rw [List.length_map]
  exact Nat.le_trans (List.length_filter_le _ _) (words_length ts)

theorem SeekWords_w (ts : List ApiTok) (hb : Toks ts) (word : ByteArray) (n : Int) : styluslaw33_SeekWords.w ts word n (fun b => b = true) := by
  unfold styluslaw33_SeekWords.w
  split
  · exact awake_w rfl
  rename_i h0
  split
  · exact awake_w rfl
  rename_i h1
  have hl : ts.length ≤ 300 := by omega
  have hn : ts.length ≤ 1000000 := by omega
  have hw : word.size ≤ 1000000 := by omega
  refine ⟨by simp; omega, rWords_w ts hb hn ?_⟩
  have hwl := words_length ts
  have hwm : ((words ts).map mkW).length = (words ts).length := List.length_map _
  unfold seek_Words.w wcut
  -- what comes behind
  have fin : wloop (σ := Int) (fun a3 next1 =>
                if a3 < (ts.length : Int) then
                  (0 ≤ a3) ∧
                  ∃ v4 : ApiTok, ts[a3.toNat]? = some v4 ∧
                  (I64 (a3 + 1)) ∧
                  next1 (a3 + 1)
                else
                  styluslaw33_awake.w  (fun r17 =>
                    r17 = true)) 0 := by
    refine wfor (fun i => i) (fun n => (n : Int)) ts.length (fun _ => True) (fun _ _ => rfl) rfl trivial ?_ ?_
    · intro n hn' _ K hK
      try dsimp only
      rw [if_pos (by omega)]
      exact ⟨by omega, ts[n], get_some ts hn', i64_lt (by omega) (by omega), by have := hK trivial; exact_mod_cast this⟩
    · intro _ K
      try dsimp only
      rw [if_neg (by omega)]; exact awake_w rfl
  have both : seek_At.w ts word (fun r11 => stylusref33_At.w ts word (fun r12 => styluslaw33_row.w r11 r12 (fun r13 =>
      if (!r13) = true then false = true else
        seek_Index.w ts (fun r14 => stylusref33_Index.w ts (fun r15 => styluslaw33_texts.w r14 r15 (fun r16 =>
          if (!r16) = true then false = true else
            wloop (σ := Int) (fun a3 next1 =>
                if a3 < (ts.length : Int) then
                  (0 ≤ a3) ∧
                  ∃ v4 : ApiTok, ts[a3.toNat]? = some v4 ∧
                  (I64 (a3 + 1)) ∧
                  next1 (a3 + 1)
                else
                  styluslaw33_awake.w  (fun r17 =>
                    r17 = true)) 0)))))) := by
    have ha := atW_length ts word
    refine At_w ts hb hn word hw (rAt_w ts hb hn word hw (row_w _ (by unfold big; omega) ?_))
    rw [if_neg (by simp)]
    refine Index_w ts hb hn fun l hi hll => rIndex_w ts hb hn fun l' hi' => ?_
    have : l' = l := srt_unique hi'.1 hi.1 fun x => by rw [hi.2, hi'.2]
    subst this
    refine texts_w _ (by unfold big; omega) ?_
    rw [if_neg (by simp)]
    exact fin
  refine Words_w ?_ ts hb (by unfold big; omega) _ ?_
  · rintro ⟨v1, v2⟩ ⟨a2, n1⟩ K K' hK ⟨e0, e1⟩
    refine ⟨e0, ?_⟩
    split at e1
    · rename_i c; rw [if_pos c]; exact hK _ _ e1
    · rename_i c
      rw [if_neg c]
      obtain ⟨e2, v3, e3, e4⟩ := e1
      refine ⟨e2, v3, e3, ?_⟩
      split at e4
      · rename_i c; rw [if_pos c]; exact hK _ _ e4
      · rename_i c
        rw [if_neg c]
        refine ⟨e4.1, ?_⟩
        have e4 := e4.2
        split at e4
        · rename_i c; rw [if_pos c]; exact hK _ _ e4
        · rename_i c; rw [if_neg c]; exact hK _ _ e4
  · have step : ∀ (post pre : List (Int × ByteArray)) (s : Int × Nat) (Q' : Int × Nat → Prop), words ts = pre ++ post → s = ((pre.length : Int), 0) → Q' ((words ts).length, 0) → Q' (n, 2) → 
        yfold (fun (x : Int × ByteArray) (s : Int × Nat) (k2 : Bool → Int × Nat → Prop) => s.2 = 0 ∧
              if (((words ts).map mkW).length : Int) ≤ s.1 then
                k2 false (s.1, 1)
              else
                (0 ≤ s.1) ∧
                ∃ v3 : Stylusref33Word, ((words ts).map mkW)[s.1.toNat]? = some v3 ∧
                if (!(decide (v3.At = x.1) && decide (v3.Text.toList = x.2.toList))) = true then
                  k2 false (s.1, 1)
                else
                  (I64 (s.1 + 1)) ∧
                  if s.1 + 1 = n then
                    k2 false (s.1 + 1, 2)
                  else
                    k2 true (s.1 + 1, 0)) post s Q' := by
      intro post
      induction post with
      | nil =>
        intro pre s Q' e es q1 q2
        subst es
        rw [List.append_nil] at e
        rw [e] at q1; exact q1
      | cons x post ih =>
        intro pre s Q' e es q1 q2
        subst es
        have hlen := congrArg List.length e
        simp only [List.length_append, List.length_cons] at hlen
        unfold yfold
        try dsimp only
        refine ⟨rfl, ?_⟩
        rw [if_neg (by omega)]
        refine ⟨by omega, mkW x, by rw [Int.toNat_natCast, e]; simp, ?_⟩
        rw [if_neg (by simp [mkW])]
        refine ⟨i64_lt (by omega) (by omega), ?_⟩
        split
        · rename_i c
          rw [if_neg (by simp), c]; exact q2
        · rw [if_pos rfl]
          exact ih (pre ++ [x]) _ Q' (by rw [e]; simp) (by simp) q1 q2
    refine step (words ts) [] _ _ rfl rfl ?_ ?_
    · dsimp only
      rw [if_neg (by omega), if_neg (by omega), if_pos (by omega)]
      exact both
    · dsimp only
      rw [if_neg (by omega), if_pos rfl]
      by_cases c : n = (((words ts).map mkW).length : Int)
      · rw [if_pos c]; exact both
      · rw [if_neg c, if_pos rfl]; exact both

/-! ### joined -/
def shiftW (d : Int) (x : Int × ByteArray) : Int × ByteArray := (x.1 + d, x.2)
theorem wordsFrom_append (b : List ApiTok) (sp : ApiTok) (hs : tl sp = false) : ∀ (a : List ApiTok) (i : Int) (acc : List Int), wordsFrom (a ++ sp :: b) i acc = wordsFrom a i acc ++ wordsFrom b (i + a.length + 1) []
  | [], i, acc => by
    simp only [List.nil_append, wordsFrom, hs]
    rw [if_neg (by simp)]
    simp
  | t :: a, i, acc => by
    simp only [List.cons_append, wordsFrom, List.length_cons]
    split
    · rw [wordsFrom_append b sp hs a]
      congr 2
      push_cast; omega
    · rw [wordsFrom_append b sp hs a, List.append_assoc]
      congr 3
      push_cast; omega
theorem wordsFrom_shift (d : Int) : ∀ (b : List ApiTok) (i : Int) (acc : List Int), wordsFrom b (i + d) acc = (wordsFrom b i acc).map (shiftW d)
  | [], i, acc => by
    unfold wordsFrom flush
    split
    · rfl
    · simp [shiftW]; omega
  | t :: b, i, acc => by
    simp only [wordsFrom]
    split
    · rw [show i + d + 1 = (i + 1) + d by omega, wordsFrom_shift d b]
    · rw [show i + d + 1 = (i + 1) + d by omega, wordsFrom_shift d b, List.map_append]
      congr 1
      unfold flush
      split
      · rfl
      · simp [shiftW]; omega
theorem words_joined (a b : List ApiTok) (sp : ApiTok) (hs : tl sp = false) : words (a ++ sp :: b) = words a ++ (words b).map (shiftW (a.length + 1)) := by
  unfold words
  rw [wordsFrom_append b sp hs, ← wordsFrom_shift, show (0 : Int) + (a.length : Int) + 1 = 0 + ((a.length : Int) + 1) by omega]
theorem atW_joined (a b : List ApiTok) (sp : ApiTok) (hs : tl sp = false) (w : ByteArray) : atW (a ++ sp :: b) w = atW a w ++ (atW b w).map (fun v => v + (a.length : Int) + 1) := by
  unfold atW
  rw [words_joined a b sp hs, List.filter_append, List.map_append, List.filter_map, List.map_map, List.map_map]
  congr 1
  have : (hit w ∘ shiftW ((a.length : Int) + 1)) = hit w := by funext x; rfl
  rw [this]
  refine List.map_congr_left fun x _ => ?_
  simp only [Function.comp, shiftW]
  omega

theorem SeekJoined_w (a b : List ApiTok) (ha : Toks a) (hb : Toks b) (word : ByteArray) : styluslaw33_SeekJoined.w a b word (fun b => b = true) := by
  unfold styluslaw33_SeekJoined.w
  split
  · exact awake_w rfl
  rename_i h0
  split
  · exact awake_w rfl
  rename_i h1
  split
  · exact awake_w rfl
  rename_i h2
  have hw : word.size ≤ 1000000 := by omega
  have hla := atW_length a word
  have hlb := atW_length b word
  refine ⟨by simp; omega, by simp; omega, by simp; omega, At_w a ha (by omega) word hw ⟨by simp; omega, At_w b hb (by omega) word hw ?_⟩⟩
  have pos : ∀ v ∈ atW b word, 0 ≤ v ∧ v ≤ (b.length : Int) := by
    intro v hv
    obtain ⟨x, hx, rfl⟩ := List.mem_map.1 hv
    have := (mem_words b x).1 (List.mem_filter.1 hx).1
    obtain ⟨n, hn, e, _⟩ := this
    omega
  refine wfor (fun s => s.2) (fun n => (atW a word ++ ((atW b word).take n).map (fun v => v + (a.length : Int) + 1), (n : Int))) (atW b word).length (fun _ => True) (fun _ _ => rfl) (by simp) trivial ?_ ?_
  · intro n hn _ K hK
    try dsimp only
    rw [if_pos (by omega)]
    have p := pos _ (List.getElem_mem hn)
    refine ⟨by omega, (atW b word)[n], get_some _ hn, i64_lt (by omega) (by omega), i64_lt (by omega) (by omega), by simp; omega, i64_lt (by omega) (by omega), ?_⟩
    have hK := hK trivial
    have e : (atW b word).take (n + 1) = (atW b word).take n ++ [(atW b word)[n]] := by rw [List.take_add_one]; simp [hn]
    rw [e, List.map_append, List.map_singleton, ← List.append_assoc] at hK
    exact_mod_cast hK
  · intro _ K
    try dsimp only
    rw [if_neg (by omega), List.take_length]
    have e : (a ++ [(⟨1, 32, 0⟩ : ApiTok)]) ++ b = a ++ ⟨1, 32, 0⟩ :: b := by simp
    rw [e]
    refine At_w _ ?_ (by simp; omega) word hw ?_
    · intro t ht
      rcases List.mem_append.1 ht with h | h
      · exact ha t h
      · rcases List.mem_cons.1 h with h | h
        · subst h; exact ⟨by decide, by decide⟩
        · exact hb t h
    · rw [atW_joined a b _ (by decide)]
      refine row_w _ (by simp [big]; omega) ?_
      rw [if_pos rfl]
      exact awake_w rfl
end Go.Proofs.Ytnenodamppageaa
