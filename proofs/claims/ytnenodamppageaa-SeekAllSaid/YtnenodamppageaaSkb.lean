/- seek's words, plainly: the machine of seek.Words, the reference's loops. -/
import Derived.Test.YtnenodamppageaaSka
namespace Go.Proofs.Ytnenodamppageaa
open Go Go.Proofs.Ytnenodamppageaa.AM
set_option linter.unusedVariables false
set_option linter.unusedSimpArgs false

def tl (t : ApiTok) : Bool := decide (t.Kind = 1) && isL t.Ch
abbrev Toks (ts : List ApiTok) : Prop := ∀ t ∈ ts, Byte t.Ch
def flush (i : Int) (acc : List Int) : List (Int × ByteArray) := if acc = [] then [] else [(i - acc.length, ofBytes acc)]
def wordsFrom : List ApiTok → Int → List Int → List (Int × ByteArray)
  | [], i, acc => flush i acc
  | t :: ts, i, acc => if tl t = true then wordsFrom ts (i + 1) (acc ++ [t.Ch]) else flush i acc ++ wordsFrom ts (i + 1) []
def words (ts : List ApiTok) : List (Int × ByteArray) := wordsFrom ts 0 []
/-- a loop's body, run over a row -/
def yfold {α σ : Type} (Y : α → σ → (Bool → σ → Prop) → Prop) : List α → σ → (σ → Prop) → Prop
  | [], s, Q => Q s
  | x :: xs, s, Q => Y x s (fun b s' => if b = true then yfold Y xs s' Q else Q s')
def YMono {α σ : Type} (Y : α → σ → (Bool → σ → Prop) → Prop) : Prop := ∀ x s (K K' : Bool → σ → Prop), (∀ b s', K b s' → K' b s') → Y x s K → Y x s K'

theorem letter_w (t : ApiTok) (hc : Byte t.Ch) {Q : Bool → Prop} (h : Q (tl t)) : seek_letter.w t Q := by
  unfold seek_letter.w
  unfold tl at h
  split
  · rename_i e; exact Letter_w hc (by simpa [e] using h)
  · rename_i e; simpa [e] using h
theorem ofBytes_nil_iff (l : List Int) : ofBytes l = ByteArray.mk #[] ↔ l = [] := by
  constructor
  · intro h
    have := congrArg ByteArray.size h
    rw [ofBytes_size] at this
    exact List.length_eq_zero_iff.1 this
  · rintro rfl; rfl

theorem Words_w {σ : Type} {Y : (Int × ByteArray) → σ → (Bool → σ → Prop) → Prop} (hY : YMono Y) (ts : List ApiTok) (hb : Toks ts) (hn : ts.length ≤ big) (s0 : σ) {Q : σ → Prop}
    (h : yfold Y (words ts) s0 Q) : seek_Words_1_i0.w Y ts s0 Q := by
  unfold big at hn
  unfold seek_Words_1_i0.w
  refine ⟨fun s => ∃ n acc, n ≤ ts.length + 1 ∧ s.2.2 = (n : Int) ∧ s.2.1 = ofBytes acc ∧ acc.length ≤ n ∧ (n ≤ ts.length → yfold Y (wordsFrom (ts.drop n) n acc) s.1 Q) ∧ (n = ts.length + 1 → Q s.1),
    fun s => (ts.length + 1 - s.2.2).toNat, ⟨0, [], by omega, rfl, rfl, by simp, fun _ => h, fun h => by omega⟩, ?_⟩
  rintro ⟨s, a1, a2⟩ ⟨n, acc, hn1, e1, e2, hacc, h1, h2⟩
  dsimp only at e1 e2 h1 h2 ⊢
  subst e1 e2
  unfold wcut
  dsimp only
  split
  rotate_left
  · exact h2 (by omega)
  rename_i hle
  have hle : n ≤ ts.length := by omega
  have h1 := h1 hle
  -- a word's end
  have tail : ∀ (ws : List (Int × ByteArray)), yfold Y (flush n acc ++ ws) s Q → (∀ s', yfold Y ws s' Q → n < ts.length → yfold Y (wordsFrom (ts.drop (n + 1)) (n + 1) []) s' Q) → (∀ s', yfold Y ws s' Q → n = ts.length → Q s') →
      (if ofBytes acc = ByteArray.mk #[] then I64 ((n : Int) + 1) ∧ ((∃ n_1 acc, n_1 ≤ ts.length + 1 ∧ (n : Int) + 1 = n_1 ∧ ByteArray.mk #[] = ofBytes acc ∧ acc.length ≤ n_1 ∧ (n_1 ≤ ts.length → yfold Y (wordsFrom (ts.drop n_1) n_1 acc) s Q) ∧ (n_1 = ts.length + 1 → Q s)) ∧ ((ts.length : Int) + 1 - ((n : Int) + 1)).toNat < ((ts.length : Int) + 1 - (n : Int)).toNat)
       else I64 ((n : Int) - ((ofBytes acc).size : Int)) ∧ Y ((n : Int) - ((ofBytes acc).size : Int), ofBytes acc) s (fun r2 s4 => if (!r2) = true then Q s4 else I64 ((n : Int) + 1) ∧ ((∃ n_1 acc, n_1 ≤ ts.length + 1 ∧ (n : Int) + 1 = n_1 ∧ ByteArray.mk #[] = ofBytes acc ∧ acc.length ≤ n_1 ∧ (n_1 ≤ ts.length → yfold Y (wordsFrom (ts.drop n_1) n_1 acc) s4 Q) ∧ (n_1 = ts.length + 1 → Q s4)) ∧ ((ts.length : Int) + 1 - ((n : Int) + 1)).toNat < ((ts.length : Int) + 1 - (n : Int)).toNat))) := by
    intro ws hf hk1 hk2
    have fin : ∀ s', yfold Y ws s' Q → I64 ((n : Int) + 1) ∧ ((∃ n_1 acc, n_1 ≤ ts.length + 1 ∧ (n : Int) + 1 = n_1 ∧ ByteArray.mk #[] = ofBytes acc ∧ acc.length ≤ n_1 ∧ (n_1 ≤ ts.length → yfold Y (wordsFrom (ts.drop n_1) n_1 acc) s' Q) ∧ (n_1 = ts.length + 1 → Q s')) ∧ ((ts.length : Int) + 1 - ((n : Int) + 1)).toNat < ((ts.length : Int) + 1 - (n : Int)).toNat) := by
      intro s' hs'
      refine ⟨i64_lt (by omega) (by omega), ⟨n + 1, [], by omega, by omega, rfl, by simp, fun hl => ?_, fun hl => hk2 s' hs' (by omega)⟩, by omega⟩
      exact_mod_cast hk1 s' hs' (by omega)
    by_cases ea : acc = []
    · subst ea
      rw [if_pos ((ofBytes_nil_iff []).2 rfl)]
      exact fin s hf
    · rw [if_neg (by rw [ofBytes_nil_iff]; exact ea), ofBytes_size]
      unfold flush at hf
      rw [if_neg ea] at hf
      refine ⟨i64_lt (by omega) (by omega), hY _ _ _ _ ?_ hf⟩
      intro b s' hbs
      cases b
      · exact hbs
      · exact fin s' hbs
  split
  · rename_i hlt
    have hlt : n < ts.length := by omega
    refine ⟨by omega, ts[n], get_some ts hlt, letter_w _ (hb _ (List.getElem_mem hlt)) ?_⟩
    rw [List.drop_eq_getElem_cons hlt] at h1
    unfold wordsFrom at h1
    split
    · rename_i et
      rw [if_pos et] at h1
      refine ⟨by omega, ts[n], get_some ts hlt, by rw [ofBytes_size, ofBytes_size]; simp; omega, i64_lt (by omega) (by omega), ⟨n + 1, acc ++ [ts[n].Ch], by omega, by omega, (ofBytes_append _ _).symm, by simp; omega, fun _ => by exact_mod_cast h1, fun h => by omega⟩, by omega⟩
    · rename_i et
      rw [if_neg et] at h1
      exact tail _ h1 (fun s' hs' _ => hs') (fun s' _ he => by omega)
  · rename_i hge
    rw [if_neg (by simp)]
    have he : n = ts.length := by omega
    have hd : ts.drop n = [] := List.drop_of_length_le (by omega)
    rw [hd] at h1
    unfold wordsFrom at h1
    exact tail [] (by rw [List.append_nil]; exact h1) (fun _ _ hl => by omega) (fun s' hs' _ => hs')

/-! ### words by their starts -/
def starts : List ApiTok → Int → Bool → List (Int × ByteArray)
  | [], _, _ => []
  | t :: ts, i, p => if tl t = true then (if p = true then starts ts (i + 1) true else (i, ofBytes (((t :: ts).takeWhile tl).map ApiTok.Ch)) :: starts ts (i + 1) true) else starts ts (i + 1) false
theorem wordsFrom_starts (ts : List ApiTok) : ∀ (i : Int) (acc : List Int), wordsFrom ts i acc = (if acc = [] then [] else [(i - acc.length, ofBytes (acc ++ (ts.takeWhile tl).map ApiTok.Ch))]) ++ starts ts i (decide (acc ≠ [])) := by
  induction ts with
  | nil =>
    intro i acc
    simp [wordsFrom, starts, flush]
  | cons t ts ih =>
    intro i acc
    unfold wordsFrom starts
    by_cases ht : tl t = true
    · rw [if_pos ht, if_pos ht, ih, if_neg (by simp), List.takeWhile_cons, if_pos ht]
      by_cases ha : acc = []
      · subst ha; simp
      · rw [if_neg ha, if_pos (by simpa using ha)]
        simp
        omega
    · rw [if_neg ht, if_neg ht, ih, if_pos rfl, List.takeWhile_cons, if_neg ht]
      unfold flush
      simp
theorem words_starts (ts : List ApiTok) : words ts = starts ts 0 false := by
  unfold words; rw [wordsFrom_starts]; simp
theorem mem_starts (ts : List ApiTok) : ∀ (i : Int) (p : Bool) (x : Int × ByteArray), x ∈ starts ts i p ↔ ∃ n, ∃ h : n < ts.length, x.1 = i + n ∧ tl ts[n] = true ∧ (n = 0 → p = false) ∧ (∀ h0 : 0 < n, tl (ts[n - 1]'(by omega)) = false) ∧ x.2 = ofBytes (((ts.drop n).takeWhile tl).map ApiTok.Ch) := by
  induction ts with
  | nil => intro i p x; simp [starts]
  | cons t ts ih =>
    intro i p x
    have step : ∀ q, tl t = q → (x ∈ starts ts (i + 1) q ↔ ∃ n, ∃ h : n < (t :: ts).length, 0 < n ∧ x.1 = i + n ∧ tl (t :: ts)[n] = true ∧ (n = 0 → p = false) ∧ (∀ h0 : 0 < n, tl ((t :: ts)[n - 1]'(by omega)) = false) ∧ x.2 = ofBytes ((((t :: ts).drop n).takeWhile tl).map ApiTok.Ch)) := by
      intro q hq
      rw [ih]
      constructor
      · rintro ⟨n, h, e1, e2, e3, e4, e5⟩
        refine ⟨n + 1, by simp; omega, by omega, by push_cast; omega, e2, by omega, fun _ => ?_, e5⟩
        rcases Nat.eq_zero_or_pos n with rfl | hn
        · simpa [hq] using e3 rfl
        · have := e4 hn
          have e : n + 1 - 1 = (n - 1) + 1 := by omega
          simp only [e, List.getElem_cons_succ]; exact this
      · rintro ⟨n, h, hp, e1, e2, e3, e4, e5⟩
        obtain ⟨m, rfl⟩ : ∃ m, n = m + 1 := ⟨n - 1, by omega⟩
        refine ⟨m, by simpa using h, by push_cast at e1; omega, e2, fun hm => ?_, fun hm => ?_, e5⟩
        · subst hm; simpa [hq] using e4 hp
        · have := e4 hp
          have e : m + 1 - 1 = (m - 1) + 1 := by omega
          simp only [e, List.getElem_cons_succ] at this; exact this
    have zero : (∃ n, ∃ h : n < (t :: ts).length, x.1 = i + n ∧ tl (t :: ts)[n] = true ∧ (n = 0 → p = false) ∧ (∀ h0 : 0 < n, tl ((t :: ts)[n - 1]'(by omega)) = false) ∧ x.2 = ofBytes ((((t :: ts).drop n).takeWhile tl).map ApiTok.Ch)) ↔
        (x.1 = i ∧ tl t = true ∧ p = false ∧ x.2 = ofBytes (((t :: ts).takeWhile tl).map ApiTok.Ch)) ∨ ∃ n, ∃ h : n < (t :: ts).length, 0 < n ∧ x.1 = i + n ∧ tl (t :: ts)[n] = true ∧ (n = 0 → p = false) ∧ (∀ h0 : 0 < n, tl ((t :: ts)[n - 1]'(by omega)) = false) ∧ x.2 = ofBytes ((((t :: ts).drop n).takeWhile tl).map ApiTok.Ch) := by
      constructor
      · rintro ⟨n, h, e⟩
        rcases Nat.eq_zero_or_pos n with rfl | hn
        · exact Or.inl ⟨by simpa using e.1, e.2.1, e.2.2.1 rfl, e.2.2.2.2⟩
        · exact Or.inr ⟨n, h, hn, e⟩
      · rintro (⟨e1, e2, e3, e4⟩ | ⟨n, h, hn, e⟩)
        · exact ⟨0, by simp, by simpa using e1, e2, fun _ => e3, fun h0 => absurd h0 (by omega), e4⟩
        · exact ⟨n, h, e⟩
    rw [zero]
    unfold starts
    by_cases ht : tl t = true
    · rw [if_pos ht]
      by_cases hp : p = true
      · rw [if_pos hp, step true ht]; simp [hp]
      · rw [if_neg hp, List.mem_cons, step true ht]
        simp only [Bool.not_eq_true] at hp
        refine or_congr ?_ Iff.rfl
        simp [hp, ht, Prod.ext_iff]
    · rw [if_neg ht, step false (by simpa using ht)]; simp [ht]
theorem starts_ge (ts : List ApiTok) (i : Int) (p : Bool) {x : Int × ByteArray} (h : x ∈ starts ts i p) : i ≤ x.1 := by
  rw [mem_starts] at h
  obtain ⟨n, _, e, _⟩ := h
  omega
theorem starts_pw (ts : List ApiTok) : ∀ (i : Int) (p : Bool), (starts ts i p).Pairwise (fun a b => a.1 < b.1) := by
  induction ts with
  | nil => intro i p; exact List.Pairwise.nil
  | cons t ts ih =>
    intro i p
    unfold starts
    split
    · split
      · exact ih _ _
      · refine List.pairwise_cons.2 ⟨fun x hx => ?_, ih _ _⟩
        have := starts_ge _ _ _ hx
        show i < x.1
        omega
    · exact ih _ _
theorem starts_length (ts : List ApiTok) : ∀ (i : Int) (p : Bool), (starts ts i p).length ≤ ts.length := by
  induction ts with
  | nil => intro i p; exact Nat.le_refl _
  | cons t ts ih =>
    intro i p
    unfold starts
    have a := ih (i + 1) true
    have b := ih (i + 1) false
    split
    · split <;> simp <;> omega
    · simp; omega
theorem words_length (ts : List ApiTok) : (words ts).length ≤ ts.length := by rw [words_starts]; exact starts_length _ _ _
theorem takeWhile_le {α : Type} (p : α → Bool) : ∀ l : List α, (l.takeWhile p).length ≤ l.length
  | [] => Nat.le_refl _
  | a :: l => by
    rw [List.takeWhile_cons]
    split
    · simpa using takeWhile_le p l
    · simp
/-- what a word is -/
def IsWord (ts : List ApiTok) (x : Int × ByteArray) : Prop := ∃ n, ∃ h : n < ts.length, x.1 = n ∧ tl ts[n] = true ∧ (∀ h0 : 0 < n, tl (ts[n - 1]'(by omega)) = false) ∧ x.2 = ofBytes (((ts.drop n).takeWhile tl).map ApiTok.Ch)
theorem mem_words (ts : List ApiTok) (x : Int × ByteArray) : x ∈ words ts ↔ IsWord ts x := by
  rw [words_starts, mem_starts]
  unfold IsWord
  simp
theorem word_size {ts : List ApiTok} {x : Int × ByteArray} (h : x ∈ words ts) : x.2.size ≤ ts.length := by
  rw [mem_words] at h
  obtain ⟨n, _, _, _, _, e⟩ := h
  rw [e, ofBytes_size, List.length_map]
  have := takeWhile_le tl (ts.drop n)
  rw [List.length_drop] at this; omega

/-! ### the reference's words -/
def letAt (ts : List ApiTok) (i : Int) : Bool := decide (0 ≤ i) && ((ts[i.toNat]?).map tl).getD false
theorem letAt_nat (ts : List ApiTok) {n : Nat} (h : n < ts.length) : letAt ts (n : Int) = tl ts[n] := by simp [letAt, h]
theorem rletter_w (ts : List ApiTok) (hb : Toks ts) (i : Int) {Q : Bool → Prop} (h : Q (letAt ts i)) : stylusref33_letter.w ts i Q := by
  unfold stylusref33_letter.w
  split
  rotate_left
  · rename_i h0; simpa [letAt, h0] using h
  rename_i h0
  obtain ⟨n, rfl⟩ := Int.eq_ofNat_of_zero_le h0
  split
  rotate_left
  · rename_i h1
    have : ts.length ≤ n := by omega
    simpa [letAt, this] using h
  rename_i h1
  have hn : n < ts.length := by omega
  refine ⟨h0, ts[n], get_some ts hn, ?_⟩
  rw [letAt_nat ts hn] at h
  unfold tl at h
  split
  · rename_i e; exact rLetter_w (hb _ (List.getElem_mem hn)) (by simpa [e] using h)
  · rename_i e; simpa [e] using h

def mkW (x : Int × ByteArray) : Stylusref33Word := ⟨x.1, x.2⟩
theorem rWords_w (ts : List ApiTok) (hb : Toks ts) (hn : ts.length ≤ 1000000) {Q : List Stylusref33Word → Prop} (h : Q ((words ts).map mkW)) : stylusref33_Words.w ts Q := by
  unfold stylusref33_Words.w
  have hwl := words_length ts
  refine ⟨fun s => ∃ n, n ≤ ts.length ∧ s.2 = (n : Int) ∧ s.1 ++ (starts (ts.drop n) n (letAt ts ((n : Int) - 1))).map mkW = (words ts).map mkW,
    fun s => (ts.length - s.2).toNat, ⟨0, by omega, rfl, by rw [words_starts]; rfl⟩, ?_⟩
  rintro ⟨a1, a2⟩ ⟨n, hn1, e1, e2⟩
  dsimp only at e1 e2 ⊢
  subst e1
  unfold wcut
  dsimp only
  split
  rotate_left
  · rename_i h0
    have : n = ts.length := by omega
    subst this
    rw [List.drop_length] at e2
    simp only [starts, List.map_nil, List.append_nil] at e2
    rw [e2]; exact h
  rename_i h0
  have hlt : n < ts.length := by omega
  have hd := List.drop_eq_getElem_cons hlt
  rw [hd] at e2
  unfold starts at e2
  rw [← hd] at e2
  have en : letAt ts (((n + 1 : Nat) : Int) - 1) = tl ts[n] := by
    rw [show ((n + 1 : Nat) : Int) - 1 = (n : Int) by omega]; exact letAt_nat ts hlt
  refine rletter_w ts hb _ ?_
  rw [letAt_nat ts hlt]
  split
  · rename_i et
    have et : tl ts[n] = false := by simpa using et
    rw [if_neg (by rw [et]; simp)] at e2
    refine ⟨i64_lt (by omega) (by omega), ⟨n + 1, by omega, by omega, ?_⟩, by omega⟩
    rw [en, et]; exact_mod_cast e2
  rename_i et
  have et : tl ts[n] = true := by simpa using et
  rw [if_pos et] at e2
  refine ⟨i64_lt (by omega) (by omega), rletter_w ts hb _ ?_⟩
  split
  · rename_i ep
    rw [if_pos ep] at e2
    refine ⟨i64_lt (by omega) (by omega), ⟨n + 1, by omega, by omega, ?_⟩, by omega⟩
    rw [en, et]; exact_mod_cast e2
  rename_i ep
  rw [if_neg ep] at e2
  have hws : (((ts.drop n).takeWhile tl).map ApiTok.Ch).length ≤ ts.length := by
    rw [List.length_map]
    have := takeWhile_le tl (ts.drop n)
    rw [List.length_drop] at this; omega
  refine ⟨fun s => ∃ m acc, m ≤ ts.length ∧ s.2 = (m : Int) ∧ s.1.At = (n : Int) ∧ s.1.Text = ofBytes acc ∧ acc ++ ((ts.drop m).takeWhile tl).map ApiTok.Ch = ((ts.drop n).takeWhile tl).map ApiTok.Ch,
    fun s => (ts.length - s.2).toNat, ⟨n, [], by omega, rfl, rfl, rfl, rfl⟩, ?_⟩
  rintro ⟨⟨at4, t4⟩, a5⟩ ⟨m, acc, hm, f1, f2, f3, f4⟩
  dsimp only at f1 f2 f3 f4 ⊢
  subst f1 f2 f3
  refine rletter_w ts hb _ ?_
  split
  · rename_i el
    have hm' : m < ts.length := by
      rcases Nat.lt_or_ge m ts.length with h1 | h1
      · exact h1
      · simp [letAt, h1] at el
    rw [letAt_nat ts hm'] at el
    rw [List.drop_eq_getElem_cons hm', List.takeWhile_cons, if_pos el] at f4
    have := congrArg List.length f4
    simp only [List.length_append, List.map_cons, List.length_cons] at this
    refine ⟨by omega, ts[m], get_some ts hm', by rw [ofBytes_size, ofBytes_size]; simp only [List.length_cons, List.length_nil]; omega, i64_lt (by omega) (by omega), ⟨m + 1, acc ++ [ts[m].Ch], by omega, by omega, rfl, (ofBytes_append _ _).symm, ?_⟩, by omega⟩
    rw [← f4]; simp
  · rename_i el
    have hw : acc = ((ts.drop n).takeWhile tl).map ApiTok.Ch := by
      rw [← f4]
      rcases Nat.lt_or_ge m ts.length with h1 | h1
      · rw [letAt_nat ts h1] at el
        rw [List.drop_eq_getElem_cons h1, List.takeWhile_cons, if_neg el]; simp
      · rw [List.drop_of_length_le h1]; simp
    have hl := congrArg List.length e2
    simp only [List.length_append, List.map_cons, List.length_cons, List.length_map] at hl
    refine ⟨by simp only [List.length_cons, List.length_nil]; omega, i64_lt (by omega) (by omega), ⟨n + 1, by omega, by omega, ?_⟩, by omega⟩
    rw [en, et, ← e2, hw, List.append_assoc]
    rfl
end Go.Proofs.Ytnenodamppageaa
