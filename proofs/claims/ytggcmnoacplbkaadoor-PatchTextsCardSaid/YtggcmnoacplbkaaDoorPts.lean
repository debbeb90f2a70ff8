/- PatchTexts, plainly: a reader's next line, its numbers; what patch.Read takes a text for. -/
import Derived.Test.YtggcmnoacplbkaaDoorPtr
namespace Go.Proofs.YtggcmnoacplbkaaDoor
open Go Go.Proofs.YtggcmnoacplbkaaDoor.AM
set_option linter.unusedVariables false
set_option linter.unusedSimpArgs false

theorem next_w (word : ByteArray) (r : PatchReader) (hw : (10 : UInt8) ∉ lb word) (hs : r.rest.size ≤ 1000000000000000) (l0 : 0 ≤ r.line) (l1 : r.line ≤ 1000000000000000) {Q : ByteArray → PatchReader → Prop} {X : AV → Prop}
    (h1 : ∀ a b, lb r.rest = lb word ++ lb a ++ 10 :: lb b → (10 : UInt8) ∉ lb a → Q a ⟨b, r.line + 1⟩) (h2 : (∀ a b : List UInt8, (10 : UInt8) ∉ a → lb r.rest ≠ lb word ++ a ++ 10 :: b) → X (wrongAV (r.line + 1))) : patch_reader_next_i0.w word r Q X := by
  unfold patch_reader_next_i0.w
  refine ⟨i64_lt (by omega) (by omega), Cut_w _ 10 hs (fun a b he ha => ?_) fun hn => ?_⟩
  · refine CutPrefix_w a word (fun a' ha' => ?_) fun hn => ?_
    · unfold wcut
      rw [ha'] at he ha
      exact h1 a' b he (fun h => ha (by simp [h]))
    · unfold wcut
      refine h2 fun a' b' ha' he' => ?_
      rw [he] at he'
      obtain ⟨e, _⟩ := split_at he' ha (by simp [hw, ha'])
      exact hn ⟨a', e⟩
  · refine CutPrefix_w r.rest word (fun a' ha' => ?_) fun hn' => ?_
    · unfold wcut
      exact h2 fun a b ha he => hn (by rw [he]; simp)
    · unfold wcut
      exact h2 fun a b ha he => hn (by rw [he]; simp)

theorem number_w (s : ByteArray) (lo hi : Int) (r : PatchReader) (hs : s.size ≤ 281474976710656) (hlo : 0 ≤ lo) (hhi : hi ≤ 999999999) {Q : Int → PatchReader → Prop} {X : AV → Prop}
    (h1 : ∀ n, s = itoaS n → lo ≤ n → n ≤ hi → Q n r) (h2 : (∀ n, s = itoaS n → lo ≤ n → n ≤ hi → False) → X (wrongAV r.line)) : patch_reader_number_i0.w s lo hi r Q X := by
  unfold patch_reader_number_i0.w
  refine ⟨hs, ?_⟩
  unfold wcut
  have bad : (∀ n, s = itoaS n → lo ≤ n → n ≤ hi → n ≠ (atoiS s).1 ∨ (atoiS s).2 = true) → X (wrongAV r.line) := fun h => h2 fun n e k1 k2 => by
    have := h n e k1 k2
    rw [e, atoiS_itoaS (by omega) (by omega)] at this
    simp at this
  have ok : ∀ v, Lib.atoiAll s.data.toList = .ok v → atoiS s = (v, false) := fun v e => by unfold atoiS; rw [e]
  cases e : Lib.atoiAll s.data.toList
  · rename_i v
    obtain ⟨b0, b1⟩ := Lib.atoiAll_bounds e
    rw [ok v e] at bad ⊢
    try dsimp only at bad ⊢
    rw [if_neg (by simp)]
    refine ⟨⟨b0, b1⟩, ite_intro (fun h3 => ite_intro (fun h4 => ?_) fun h4 => ?_) fun h3 => ?_⟩
    · exact bad fun n _ k1 _ => .inl (by omega)
    · by_cases h5 : hi < v
      · rw [if_pos (by simpa using h5)]
        exact bad fun n _ _ k2 => .inl (by omega)
      · rw [if_neg (by simpa using h5)]
        exact h1 v h3.symm (by omega) (by omega)
    · exact bad fun n en _ _ => .inl fun hv => h3 (by rw [← hv, en])
  · have e2 : atoiS s = (0, true) := by unfold atoiS; rw [e]
    rw [e2] at bad ⊢
    exact bad fun _ _ _ _ => .inr rfl
  · have e2 : atoiS s = (Lib.atoiSat s.data.toList, true) := by unfold atoiS; rw [e]
    rw [e2] at bad ⊢
    exact bad fun _ _ _ _ => .inr rfl

/-! ### a patch's text, in rows of bytes -/
def lnL (x : ByteArray) : List UInt8 := 62 :: (lb x ++ [10])
def hdL (page n : Int) : List UInt8 := lb tPage ++ (lb (itoaS page) ++ 32 :: lb (itoaS n)) ++ [10]
def chL (c : ApiChange) : List UInt8 := hdL c.Page c.Lines.length ++ (c.Lines.map lnL).flatten
def topL (n : Int) : List UInt8 := lb tPages ++ lb (itoaS n) ++ [10]
theorem lb_ln (l : List ByteArray) : ∀ a : ByteArray, lb (l.foldl lnT a) = lb a ++ (l.map lnL).flatten := by
  induction l with
  | nil => intro a; simp
  | cons x l ih =>
    intro a
    rw [List.foldl_cons, ih]
    simp only [lnT, lb_append, lnL, List.map_cons, List.flatten_cons]
    simp [lb]
theorem lb_hd (c : ApiChange) : lb (hdT c) = hdL c.Page c.Lines.length := by
  simp only [hdT, hdL, lb_append]
  simp [lb]
theorem lb_ch (l : List ApiChange) : ∀ a : ByteArray, lb (l.foldl chT a) = lb a ++ (l.map chL).flatten := by
  induction l with
  | nil => intro a; simp
  | cons c l ih =>
    intro a
    rw [List.foldl_cons, ih, chT, lb_ln, lb_append, lb_hd]
    simp only [chL, List.map_cons, List.flatten_cons, List.append_assoc]
theorem lb_text (p : ApiPatch) : lb (textT p) = topL p.Pages ++ (p.Changes.map chL).flatten := by
  unfold textT
  rw [lb_ch]
  congr 1
theorem hdL_ne (a b : Int) : hdL a b ≠ [] := by unfold hdL; simp
theorem chL_ne (c : ApiChange) : chL c ≠ [] := by unfold chL; simp [hdL_ne]
theorem flatten_length {α β : Type} (f : α → List β) (hf : ∀ x, f x ≠ []) : ∀ l : List α, l.length ≤ (l.map f).flatten.length
  | [] => by simp
  | x :: l => by
    have := flatten_length f hf l
    have h2 : 0 < (f x).length := List.length_pos_iff.2 (hf x)
    simp only [List.map_cons, List.flatten_cons, List.length_append, List.length_cons]; omega
theorem itoa_no {n : Int} (h : 0 ≤ n) {c : UInt8} (hc : c.toNat < 48) : c ∉ lb (itoaS n) := fun hm => by
  have := itoaS_dig h c hm; omega
end Go.Proofs.YtggcmnoacplbkaaDoor
