/- PatchDoes' functions, plainly: a patch's text, what may be told, a patch done on any pages; the document's and the program's. -/
import Derived.Test.YtlnjajfagildnaaDoorPub
import Derived.Lib.IndexLaws
namespace Go.Proofs.YtlnjajfagildnaaDoor
open Go Go.Proofs.YtlnjajfagildnaaDoor.AM
set_option linter.unusedVariables false
set_option linter.unusedSimpArgs false

theorem ite_intro {p : Prop} [Decidable p] {A B : Prop} (h : p → A) (h' : ¬ p → B) : if p then A else B := by
  by_cases c : p
  · rw [if_pos c]; exact h c
  · rw [if_neg c]; exact h' c
theorem take_snoc {α : Type} (l : List α) {n : Nat} (h : n < l.length) : l.take (n + 1) = l.take n ++ [l[n]] := by rw [List.take_add_one]; simp [h]

/-! ### bounds -/
theorem wide2_w (l : List ByteArray) (hb : l.length ≤ big) {Q : Bool → Prop} (h : ∀ r, (r = false → l.length ≤ 60 ∧ ∀ x ∈ l, x.size ≤ 200) → Q r) : styluslaw35_wide.w l Q := by
  unfold big at hb
  unfold styluslaw35_wide.w
  refine wfor (fun i => i) (fun n => (n : Int)) l.length (fun n => ∀ x ∈ l.take n, x.size ≤ 200) (fun _ _ => rfl) rfl (by simp) ?_ ?_
  · intro n hn hp K hK
    try dsimp only
    rw [if_pos (by omega)]
    refine ⟨by omega, l[n], get_some l hn, ite_intro (fun _ => h true (fun e => by cases e)) fun h2 => ⟨i64_lt (by omega) (by omega), ?_⟩⟩
    have := hK (fun x hx => by
      rw [take_snoc l hn] at hx
      rcases List.mem_append.1 hx with hx | hx
      · exact hp x hx
      · rw [List.mem_singleton] at hx; subst hx; omega)
    simpa using this
  · intro hp K
    try dsimp only
    rw [if_neg (by omega)]
    rw [List.take_length] at hp
    exact h _ (fun e => ⟨by simp at e; omega, hp⟩)
theorem many_w (p : ApiPatch) (hb : p.Changes.length ≤ big) (hb2 : ∀ c ∈ p.Changes, c.Lines.length ≤ big) {Q : Bool → Prop} (h : ∀ r, (r = false → p.Changes.length ≤ 60 ∧ ∀ c ∈ p.Changes, c.Lines.length ≤ 60 ∧ ∀ x ∈ c.Lines, x.size ≤ 200) → Q r) : styluslaw35_many.w p Q := by
  unfold big at hb
  unfold styluslaw35_many.w
  refine wfor (fun i => i) (fun n => (n : Int)) p.Changes.length (fun n => ∀ c ∈ p.Changes.take n, c.Lines.length ≤ 60 ∧ ∀ x ∈ c.Lines, x.size ≤ 200) (fun _ _ => rfl) rfl (by simp) ?_ ?_
  · intro n hn hp K hK
    try dsimp only
    rw [if_pos (by omega)]
    refine ⟨by omega, p.Changes[n], get_some _ hn, wide2_w _ (hb2 _ (List.getElem_mem hn)) fun r hr => ite_intro (fun _ => h true (fun e => by cases e)) fun h2 => ⟨i64_lt (by omega) (by omega), ?_⟩⟩
    have hr := hr (by simpa using h2)
    have := hK (fun x hx => by
      rw [take_snoc _ hn] at hx
      rcases List.mem_append.1 hx with hx | hx
      · exact hp x hx
      · rw [List.mem_singleton] at hx; subst hx; exact hr)
    simpa using this
  · intro hp K
    try dsimp only
    rw [if_neg (by omega)]
    rw [List.take_length] at hp
    exact h _ (fun e => ⟨by simp at e; omega, hp⟩)
theorem long2_w (l : List (List ByteArray)) (hb : l.length ≤ big) (hb2 : ∀ v ∈ l, v.length ≤ big) {Q : Bool → Prop} (h : ∀ r, (r = false → l.length ≤ 60 ∧ ∀ v ∈ l, v.length ≤ 60 ∧ ∀ x ∈ v, x.size ≤ 200) → Q r) : styluslaw35_long.w l Q := by
  unfold big at hb
  unfold styluslaw35_long.w
  refine wfor (fun i => i) (fun n => (n : Int)) l.length (fun n => ∀ v ∈ l.take n, v.length ≤ 60 ∧ ∀ x ∈ v, x.size ≤ 200) (fun _ _ => rfl) rfl (by simp) ?_ ?_
  · intro n hn hp K hK
    try dsimp only
    rw [if_pos (by omega)]
    refine ⟨by omega, l[n], get_some _ hn, wide2_w _ (hb2 _ (List.getElem_mem hn)) fun r hr => ite_intro (fun _ => h true (fun e => by cases e)) fun h2 => ⟨i64_lt (by omega) (by omega), ?_⟩⟩
    have hr := hr (by simpa using h2)
    have := hK (fun x hx => by
      rw [take_snoc _ hn] at hx
      rcases List.mem_append.1 hx with hx | hx
      · exact hp x hx
      · rw [List.mem_singleton] at hx; subst hx; exact hr)
    simpa using this
  · intro hp K
    try dsimp only
    rw [if_neg (by omega)]
    rw [List.take_length] at hp
    exact h _ (fun e => ⟨by simp at e; omega, hp⟩)

/-! ### what may be told -/
def risingF (P : Int) : Int → List ApiChange → Bool
  | _, [] => true
  | last, c :: cs => decide (last < c.Page) && (decide (c.Page ≤ P) && risingF P c.Page cs)
def rising (p : ApiPatch) : Bool := risingF p.Pages 0 p.Changes && decide (0 ≤ p.Pages)
def lastP (l : List ApiChange) (n : Nat) : Int := if h : 0 < n ∧ n ≤ l.length then (l[n - 1]'(by omega)).Page else 0
theorem lastP_succ (l : List ApiChange) {n : Nat} (h : n < l.length) : lastP l (n + 1) = l[n].Page := by
  unfold lastP; rw [dif_pos ⟨by omega, by omega⟩]; simp
theorem risingF_false {P last : Int} {c : ApiChange} {cs : List ApiChange} (h : c.Page ≤ last ∨ P < c.Page) : risingF P last (c :: cs) = false := by
  unfold risingF
  rcases h with h | h
  · rw [decide_eq_false (by omega)]; rfl
  · rw [decide_eq_false (p := c.Page ≤ P) (by omega)]; simp
theorem risingF_true {P last : Int} {c : ApiChange} {cs : List ApiChange} (h : last < c.Page) (h' : c.Page ≤ P) : risingF P last (c :: cs) = risingF P c.Page cs := by
  conv => lhs; unfold risingF
  rw [decide_eq_true h, decide_eq_true h']; simp

theorem Rising_w (p : ApiPatch) (hb : p.Changes.length ≤ big) {Q : Bool → Prop} (h : Q (rising p)) : stylusref35_Rising.w p Q := by
  unfold big at hb
  unfold stylusref35_Rising.w
  refine wfor (fun i => i) (fun n => (n : Int)) p.Changes.length (fun n => risingF p.Pages 0 p.Changes = risingF p.Pages (lastP p.Changes n) (p.Changes.drop n) ∧ 0 ≤ lastP p.Changes n) (fun _ _ => rfl) rfl ⟨rfl, by simp [lastP]⟩ ?_ ?_
  · rintro n hn ⟨hp, h0⟩ K hK
    try dsimp only
    unfold wcut
    rw [if_pos (by omega)]
    rw [List.drop_eq_getElem_cons hn] at hp
    have fin : lastP p.Changes n < p.Changes[n].Page → p.Changes[n].Page ≤ p.Pages → I64 ((n : Int) + 1) ∧ K ((n : Int) + 1) := fun h1 h2 =>
      ⟨i64_lt (by omega) (by omega), by
        have := hK ⟨by rw [hp, risingF_true h1 h2, lastP_succ _ hn], by rw [lastP_succ _ hn]; omega⟩
        simpa using this⟩
    have bad : (p.Changes[n].Page ≤ lastP p.Changes n ∨ p.Pages < p.Changes[n].Page) → Q false := fun hh => by
      unfold rising at h
      rw [hp, risingF_false hh] at h; exact h
    refine ⟨by omega, p.Changes[n], get_some _ hn, ite_intro (fun h1 => bad (Or.inl (by omega))) fun h1 => ite_intro (fun h2 => bad (Or.inr h2)) fun h2 => ite_intro (fun h3 => ?_) fun h3 => ?_⟩
    · have hn0 : 0 < n := by omega
      have el : lastP p.Changes n = (p.Changes[n - 1]'(by omega)).Page := by unfold lastP; rw [dif_pos ⟨hn0, by omega⟩]
      refine ⟨i64_lt (by omega) (by omega), by omega, p.Changes[n - 1]'(by omega), by rw [show ((n : Int) - 1).toNat = n - 1 by omega]; exact List.getElem?_eq_getElem _, ite_intro (fun h4 => bad (Or.inl (by rw [el]; exact h4))) fun h4 => fin (by rw [el]; omega) (by omega)⟩
    · have hn0 : n = 0 := by omega
      refine fin ?_ (by omega)
      subst hn0
      simp only [lastP]; simp; omega
  · rintro ⟨hp, _⟩ K
    try dsimp only
    rw [if_neg (by omega)]
    rw [List.drop_length] at hp
    unfold rising at h
    rw [hp] at h
    simpa [risingF] using h

theorem oneByte_iff (s : ByteArray) (c : UInt8) : oneByte s c = true ↔ c ∈ s.data.toList := by
  unfold oneByte
  rw [decide_eq_true_iff]
  constructor
  · intro h
    obtain ⟨o, ho⟩ := Int.eq_ofNat_of_zero_le h
    exact List.mem_of_getElem? (Lib.indexByte_some ho).1
  · intro h
    have hge := Lib.indexByte_ge s.data.toList c
    by_cases e : Lib.indexByte s.data.toList c = -1
    · obtain ⟨k, hk, e2⟩ := List.getElem_of_mem h
      exact absurd (by rw [List.getElem?_eq_getElem hk, e2]) (Lib.indexByte_none e k)
    · omega
def lfs (l : List ByteArray) : Bool := l.any fun s => oneByte s 10
def hasLF (p : ApiPatch) : Bool := p.Changes.any fun c => lfs c.Lines
def toldB (p : ApiPatch) : Bool := (risingF p.Pages 0 p.Changes && !hasLF p) && (decide (0 ≤ p.Pages) && decide (p.Pages ≤ 999999999))
theorem any_snoc {α : Type} (f : α → Bool) (l : List α) {n : Nat} (hn : n < l.length) : (l.take (n + 1)).any f = ((l.take n).any f || f l[n]) := by rw [take_snoc l hn, List.any_append, List.any_cons, List.any_nil, Bool.or_false]
theorem any_true_take {α : Type} {f : α → Bool} {l : List α} {n : Nat} (hn : n < l.length) (h : f l[n] = true) : l.any f = true := List.any_eq_true.2 ⟨l[n], List.getElem_mem hn, h⟩

theorem contains_w (l : List ByteArray) (hb : l.length ≤ big) {Q : Bool → Prop} (h : Q (lfs l)) : slices_ContainsFunc_string_string_i0.w l Q := by
  unfold big at hb
  unfold slices_ContainsFunc_string_string_i0.w slices_IndexFunc_string_string_i0.w
  refine wfor (fun i => i) (fun n => (n : Int)) l.length (fun n => (l.take n).any (fun s => oneByte s 10) = false) (fun _ _ => rfl) rfl (by simp) ?_ ?_
  · intro n hn hp K hK
    try dsimp only
    rw [if_pos (by omega)]
    refine ⟨by omega, l[n], get_some l hn, ⟨10, rfl, ite_intro (fun h1 => ?_) fun h1 => ⟨i64_lt (by omega) (by omega), ?_⟩⟩⟩
    · have : lfs l = true := any_true_take (f := fun s => oneByte s 10) hn h1
      rw [this] at h
      rw [decide_eq_true (by omega)]; exact h
    · have := hK (by rw [any_snoc _ l hn, hp]; simpa using h1)
      simpa using this
  · intro hp K
    try dsimp only
    rw [if_neg (by omega)]
    rw [List.take_length] at hp
    have : lfs l = false := hp
    rw [this] at h
    simpa using h

theorem right_w (p : ApiPatch) (hb : p.Changes.length ≤ 60) (hb2 : ∀ c ∈ p.Changes, c.Lines.length ≤ 60) {Q : Bool → Prop} (h : Q (toldB p)) : patch_right.w p Q := by
  unfold patch_right.w
  refine wfor (fun s => s.2) (fun n => (lastP p.Changes n, (n : Int))) p.Changes.length (fun n => risingF p.Pages 0 p.Changes = risingF p.Pages (lastP p.Changes n) (p.Changes.drop n) ∧ (p.Changes.take n).any (fun c => lfs c.Lines) = false) (fun _ _ => rfl) (by simp [lastP]) ⟨by simp [lastP], by simp⟩ ?_ ?_
  · rintro n hn ⟨hp, hlf⟩ K hK
    try dsimp only
    rw [if_pos (by omega)]
    rw [List.drop_eq_getElem_cons hn] at hp
    have bad : (p.Changes[n].Page ≤ lastP p.Changes n ∨ p.Pages < p.Changes[n].Page) → Q false := fun hh => by
      unfold toldB at h
      rw [hp, risingF_false hh] at h; simpa using h
    refine ⟨by omega, p.Changes[n], get_some _ hn, ite_intro (fun h1 => bad (Or.inl h1)) fun h1 => ite_intro (fun h2 => bad (Or.inr h2)) fun h2 => ?_⟩
    have hl := hb2 _ (List.getElem_mem hn)
    rw [if_neg (by omega)]
    refine contains_w _ (by unfold big; omega) (ite_intro (fun h3 => ?_) fun h3 => ⟨i64_lt (by omega) (by omega), ?_⟩)
    · have : hasLF p = true := any_true_take (f := fun c : ApiChange => lfs c.Lines) hn h3
      unfold toldB at h
      rw [this] at h; simpa using h
    · have := hK ⟨by rw [hp, risingF_true (by omega) (by omega), lastP_succ _ hn], by rw [any_snoc _ _ hn, hlf]; simpa using h3⟩
      rw [lastP_succ _ hn] at this
      simpa using this
  · rintro ⟨hp, hlf⟩ K
    try dsimp only
    rw [if_neg (by omega)]
    rw [List.drop_length] at hp
    rw [List.take_length] at hlf
    have hlf : hasLF p = false := hlf
    unfold toldB at h
    rw [hp, hlf] at h
    refine ite_intro (fun h1 => ?_) fun h1 => ?_
    · simpa [risingF, h1] using h
    · simpa [risingF, h1] using h

theorem Split_w (s : ByteArray) (hs : s.size ≤ 1000000) {Q : List ByteArray → Prop} (h : ∀ r : List ByteArray, (1 < r.length ↔ oneByte s 10 = true) → Q r) : stylusref16_Split.w s 10 Q := by
  unfold stylusref16_Split.w
  refine ⟨fun st => ∃ n, n ≤ s.size ∧ st.2 = (n : Int) ∧ 1 ≤ st.1.length ∧ st.1.length ≤ n + 1 ∧ (1 < st.1.length ↔ (10 : UInt8) ∈ s.data.toList.take n) ∧ ∀ v ∈ st.1, v.size ≤ n,
    fun st => (s.size - st.2).toNat, ⟨0, by omega, rfl, by simp, by simp, by simp, by simp; rfl⟩, ?_⟩
  rintro ⟨a1, a2⟩ ⟨n, hn, e1, l1, l2, hi, hv⟩
  dsimp only at e1 l1 l2 hi hv ⊢
  subst e1
  unfold wcut
  dsimp only
  refine ite_intro (fun h1 => ?_) fun h1 => ?_
  · have hlt : n < s.size := by omega
    have hlt' : n < s.data.toList.length := hlt
    have hg : s[(n : Int).toNat]? = some (s.data.toList[n]'hlt') := by
      rw [Int.toNat_natCast, getElem?_pos s n hlt]; rfl
    refine ⟨by omega, _, hg, ?_⟩
    have et := take_snoc s.data.toList hlt'
    refine ite_intro (fun h2 => ?_) fun h2 => ?_
    · refine ⟨by simp only [List.length_cons, List.length_nil]; omega, i64_lt (by omega) (by omega), ⟨n + 1, by omega, by omega, by simp, by simp; omega, ?_, ?_⟩, by omega⟩
      · rw [et]
        have : s.data.toList[n]'hlt' = 10 := UInt8.toNat.inj (by have : (10 : UInt8).toNat = 10 := rfl; omega)
        rw [this]
        exact ⟨fun _ => by simp, fun _ => by rw [List.length_append, List.length_singleton]; omega⟩
      · intro v hv'
        rcases List.mem_append.1 hv' with hv' | hv'
        · have := hv v hv'; omega
        · rw [List.mem_singleton] at hv'; subst hv'; exact Nat.zero_le _
    · have hl : a1.length - 1 < a1.length := by omega
      have hsz := hv _ (List.getElem_mem hl)
      have hex : (s.extract (n : Int).toNat ((n : Int) + 1).toNat).size = 1 := by
        rw [Int.toNat_natCast, show ((n : Int) + 1).toNat = n + 1 by omega, ByteArray.size_extract]; omega
      refine ⟨i64_lt (by omega) (by omega), i64_lt (by omega) (by omega), by omega, a1[a1.length - 1], by rw [show ((a1.length : Int) - 1).toNat = a1.length - 1 by omega]; exact List.getElem?_eq_getElem _, i64_lt (by omega) (by omega), by omega, by omega, by omega, by rw [hex]; omega, i64_lt (by omega) (by omega), ⟨n + 1, by omega, by omega, by simpa using l1, by simp; omega, ?_, ?_⟩, by omega⟩
      · rw [List.length_set, hi, et]
        have : s.data.toList[n]'hlt' ≠ 10 := fun e => h2 (by rw [e]; rfl)
        rw [List.mem_append, List.mem_singleton]
        exact ⟨Or.inl, fun h => h.elim id fun e => absurd e.symm this⟩
      · intro v hv'
        rcases List.mem_or_eq_of_mem_set hv' with hv' | hv'
        · have := hv v hv'; omega
        · subst hv'
          rw [ByteArray.size_append, hex]; omega
  · have : n = s.size := by omega
    subst this
    refine h _ ?_
    have e : s.data.toList.take s.size = s.data.toList := List.take_of_length_le (Nat.le_refl _)
    rw [hi, oneByte_iff, e]

theorem Told_w (p : ApiPatch) (hb : p.Changes.length ≤ 60) (hb2 : ∀ c ∈ p.Changes, c.Lines.length ≤ 60 ∧ ∀ x ∈ c.Lines, x.size ≤ 200) {Q : Bool → Prop} (h : Q (toldB p)) : stylusref35_Told.w p Q := by
  unfold stylusref35_Told.w
  refine wfor (fun i => i) (fun n => (n : Int)) p.Changes.length (fun n => (p.Changes.take n).any (fun c => lfs c.Lines) = false) (fun _ _ => rfl) rfl (by simp) ?_ ?_
  · intro n hn hp K hK
    try dsimp only
    rw [if_pos (by omega)]
    obtain ⟨c1, c2⟩ := hb2 _ (List.getElem_mem hn)
    refine wfor (fun i => i) (fun m => (m : Int)) p.Changes[n].Lines.length (fun m => (p.Changes[n].Lines.take m).any (fun s => oneByte s 10) = false) (fun _ _ => rfl) rfl (by simp) ?_ ?_
    · intro m hm hp2 K2 hK2
      try dsimp only
      refine ⟨by omega, p.Changes[n], get_some _ hn, ?_⟩
      rw [if_pos (by omega)]
      have hx := c2 _ (List.getElem_mem hm)
      refine ⟨by omega, p.Changes[n].Lines[m], get_some _ hm, Split_w _ (by omega) fun r hr => ite_intro (fun h1 => ?_) fun h1 => ⟨i64_lt (by omega) (by omega), ?_⟩⟩
      · have h3 : oneByte p.Changes[n].Lines[m] 10 = true := hr.1 (by omega)
        have h4 : lfs p.Changes[n].Lines = true := any_true_take (f := fun s => oneByte s 10) hm h3
        have : hasLF p = true := any_true_take (f := fun c : ApiChange => lfs c.Lines) hn h4
        unfold toldB at h
        rw [this] at h; simpa using h
      · have := hK2 (by
          rw [any_snoc _ _ hm, hp2]
          have : ¬ oneByte p.Changes[n].Lines[m] 10 = true := fun e => h1 (by have := hr.2 e; omega)
          simpa using this)
        simpa using this
    · intro hp2 K2
      try dsimp only
      refine ⟨by omega, p.Changes[n], get_some _ hn, ?_⟩
      rw [if_neg (by omega)]
      refine ⟨i64_lt (by omega) (by omega), ?_⟩
      have := hK (by
        rw [any_snoc _ _ hn, hp]
        rw [List.take_length] at hp2
        simpa [lfs] using hp2)
      simpa using this
  · intro hp K
    try dsimp only
    rw [if_neg (by omega)]
    rw [List.take_length] at hp
    have hlf : hasLF p = false := hp
    refine Rising_w p (by unfold big; omega) ?_
    unfold toldB at h
    rw [hlf] at h
    unfold rising
    refine ite_intro (fun h1 => ?_) fun h1 => ?_
    · simp only [Bool.and_eq_true, decide_eq_true_eq] at h1
      simpa [h1.1, h1.2] using h
    · by_cases e : risingF p.Pages 0 p.Changes = true
      · have : ¬ 0 ≤ p.Pages := fun e2 => h1 (by simp [e, e2])
        simpa [this] using h
      · simp only [Bool.not_eq_true] at e
        simpa [e] using h

/-! ### texts -/
theorem decDigits_le (u : Nat) : (Lib.decDigits u).length ≤ u + 1 := by
  induction u using Nat.strongRecOn with
  | _ u ih =>
    rw [Lib.decDigits]
    split
    · simp
    · have := ih (u / 10) (by omega)
      simp; omega
theorem itoaS_size (n : Nat) : (itoaS (n : Int)).size ≤ n + 1 := by
  unfold itoaS Lib.itoa
  rw [if_neg (by omega), Int.toNat_natCast]
  exact decDigits_le n
theorem digit_byte {u : Nat} (h : u < 10) : ofBytes [IntKind.u8.wrap (48 + (u : Int))] = ⟨#[UInt8.ofNat (48 + u)]⟩ := by
  have e : IntKind.u8.wrap (48 + (u : Int)) = 48 + u := by
    have : ∀ n : Fin 10, IntKind.u8.wrap (48 + (n.val : Int)) = 48 + n.val := by decide
    exact this ⟨u, h⟩
  rw [e]
  unfold ofBytes
  simp only [List.map_cons, List.map_nil]
  rw [show (48 + (u : Int)).toNat = 48 + u by omega]
theorem Digits_wn (u : Nat) (hu : u ≤ 1000000000000) : ∃ k, ∀ Q : ByteArray → Prop, Q ⟨(Lib.decDigits u).toArray⟩ → stylusref16_Digits.wn k (u : Int) Q := by
  induction u using Nat.strongRecOn with
  | _ u ih =>
    by_cases h : u < 10
    · refine ⟨1, fun Q hq => ?_⟩
      rw [Lib.decDigits, dif_pos h] at hq
      unfold stylusref16_Digits.wn
      have e : (u : Int).tmod 10 = (u : Int) := Int.tmod_eq_of_lt (by omega) (by omega)
      rw [e]
      refine ⟨i64_lt (by omega) (by omega), ?_⟩
      rw [if_neg (by omega), digit_byte h]
      exact hq
    · obtain ⟨k, hk⟩ := ih (u / 10) (by omega) (by omega)
      refine ⟨k + 1, fun Q hq => ?_⟩
      rw [Lib.decDigits, dif_neg h] at hq
      unfold stylusref16_Digits.wn
      have e : (u : Int).tmod 10 = ((u % 10 : Nat) : Int) := by rw [Int.tmod_eq_emod_of_nonneg (by omega)]; omega
      have e2 : (u : Int).tdiv 10 = ((u / 10 : Nat) : Int) := by rw [Int.tdiv_eq_ediv_of_nonneg (by omega)]; omega
      rw [e, e2]
      refine ⟨i64_lt (by omega) (by omega), ?_⟩
      rw [if_pos (by omega)]
      refine ⟨i64_lt (by omega) (by omega), hk _ ?_⟩
      rw [digit_byte (by omega)]
      have hl := decDigits_le (u / 10)
      refine ⟨?_, ?_⟩
      · show (Lib.decDigits (u / 10)).toArray.size + 1 ≤ _
        simp; omega
      · have e3 : (⟨(Lib.decDigits (u / 10)).toArray⟩ : ByteArray) ++ ⟨#[UInt8.ofNat (48 + u % 10)]⟩ = ⟨(Lib.decDigits (u / 10) ++ [UInt8.ofNat (48 + u % 10)]).toArray⟩ := by
          apply ByteArray.ext
          rw [ByteArray.data_append]
          simp
        rw [e3]; exact hq
theorem Digits_w {n : Int} (h0 : 0 ≤ n) (hn : n ≤ 1000000000000) {Q : ByteArray → Prop} (h : Q (itoaS n)) : stylusref16_Digits.w n Q := by
  obtain ⟨u, rfl⟩ := Int.eq_ofNat_of_zero_le h0
  obtain ⟨k, hk⟩ := Digits_wn u (by omega)
  refine ⟨k, hk Q ?_⟩
  unfold itoaS Lib.itoa at h
  rw [if_neg (by omega), Int.toNat_natCast] at h
  exact h

abbrev tPages : ByteArray := ByteArray.mk #[112, 97, 103, 101, 115, 32]
abbrev tPage : ByteArray := ByteArray.mk #[112, 97, 103, 101, 32]
abbrev tSp : ByteArray := ByteArray.mk #[32]
abbrev tLF : ByteArray := ByteArray.mk #[10]
abbrev tGt : ByteArray := ByteArray.mk #[62]
def lnT (a s : ByteArray) : ByteArray := ((a ++ tGt) ++ s) ++ tLF
def hdT (c : ApiChange) : ByteArray := (((tPage ++ itoaS c.Page) ++ tSp) ++ itoaS (c.Lines.length : Int)) ++ tLF
def chT (a : ByteArray) (c : ApiChange) : ByteArray := c.Lines.foldl lnT (a ++ hdT c)
def topT (p : ApiPatch) : ByteArray := (tPages ++ itoaS p.Pages) ++ tLF
def textT (p : ApiPatch) : ByteArray := p.Changes.foldl chT (topT p)
theorem bsz (a b : ByteArray) : (a ++ b).size = a.size + b.size := ByteArray.size_append
theorem lns_size (l : List ByteArray) (h : ∀ x ∈ l, x.size ≤ 200) : ∀ a : ByteArray, (l.foldl lnT a).size ≤ a.size + 202 * l.length := by
  induction l with
  | nil => intro a; simp
  | cons x l ih =>
    intro a
    have hx := h x (by simp)
    have := ih (fun y hy => h y (by simp [hy])) (lnT a x)
    have e : (lnT a x).size = a.size + 1 + x.size + 1 := by simp only [lnT, bsz]; rfl
    simp only [List.foldl_cons, List.length_cons]
    omega
def OkC (c : ApiChange) : Prop := 0 ≤ c.Page ∧ c.Page ≤ 999999999 ∧ c.Lines.length ≤ 60 ∧ ∀ x ∈ c.Lines, x.size ≤ 200
theorem hdT_size {c : ApiChange} (h : OkC c) : (hdT c).size ≤ 1000000100 := by
  obtain ⟨h0, h1, h2, _⟩ := h
  obtain ⟨u, e⟩ := Int.eq_ofNat_of_zero_le h0
  unfold hdT
  rw [e]
  have a := itoaS_size u
  have b := itoaS_size c.Lines.length
  simp only [bsz]
  have : tPage.size = 5 := rfl
  have : tSp.size = 1 := rfl
  have : tLF.size = 1 := rfl
  omega
theorem chT_size {c : ApiChange} (h : OkC c) (a : ByteArray) : (chT a c).size ≤ a.size + 1000020000 := by
  have h1 := lns_size c.Lines h.2.2.2 (a ++ hdT c)
  have h2 := hdT_size h
  rw [bsz] at h1
  have := h.2.2.1
  unfold chT; omega
theorem fold_size (l : List ApiChange) (h : ∀ c ∈ l, OkC c) : ∀ a : ByteArray, (l.foldl chT a).size ≤ a.size + 1000020000 * l.length := by
  induction l with
  | nil => intro a; simp
  | cons c l ih =>
    intro a
    have := ih (fun y hy => h y (by simp [hy])) (chT a c)
    have h2 := chT_size (h c (by simp)) a
    simp only [List.foldl_cons, List.length_cons]
    omega
theorem risingF_pages {P : Int} : ∀ {l : List ApiChange} {last : Int}, risingF P last l = true → ∀ c ∈ l, last < c.Page ∧ c.Page ≤ P
  | [], _, _, c, hc => by simp at hc
  | d :: l, last, h, c, hc => by
    unfold risingF at h
    simp only [Bool.and_eq_true, decide_eq_true_eq] at h
    rcases List.mem_cons.1 hc with rfl | hc
    · exact ⟨h.1, h.2.1⟩
    · have := risingF_pages h.2.2 c hc
      omega
theorem told_ok {p : ApiPatch} (h : toldB p = true) (hb2 : ∀ c ∈ p.Changes, c.Lines.length ≤ 60 ∧ ∀ x ∈ c.Lines, x.size ≤ 200) : 0 ≤ p.Pages ∧ p.Pages ≤ 999999999 ∧ ∀ c ∈ p.Changes, OkC c := by
  unfold toldB at h
  simp only [Bool.and_eq_true, decide_eq_true_eq] at h
  refine ⟨h.2.1, h.2.2, fun c hc => ?_⟩
  have := risingF_pages h.1.1 c hc
  exact ⟨by omega, by omega, (hb2 c hc).1, (hb2 c hc).2⟩
theorem topT_size {p : ApiPatch} (h0 : 0 ≤ p.Pages) (h1 : p.Pages ≤ 999999999) : (topT p).size ≤ 1000000100 := by
  obtain ⟨u, e⟩ := Int.eq_ofNat_of_zero_le h0
  unfold topT
  rw [e]
  have a := itoaS_size u
  simp only [bsz]
  have : tPages.size = 6 := rfl
  have : tLF.size = 1 := rfl
  omega

def resT (p : ApiPatch) : ByteArray × Int := if toldB p = true then (textT p, 0) else (ByteArray.mk #[], 1)
theorem refWrite_w (p : ApiPatch) (hb : p.Changes.length ≤ 60) (hb2 : ∀ c ∈ p.Changes, c.Lines.length ≤ 60 ∧ ∀ x ∈ c.Lines, x.size ≤ 200) {Q : ByteArray × Int → Prop} (h : Q (resT p)) : stylusref35_Write.w p Q := by
  unfold stylusref35_Write.w
  refine Told_w p hb hb2 (ite_intro (fun h1 => ?_) fun h1 => ?_)
  · unfold resT at h
    rw [if_neg (by simpa using h1)] at h; exact h
  have ht : toldB p = true := by simpa using h1
  unfold resT at h
  rw [if_pos ht] at h
  obtain ⟨o1, o2, o3⟩ := told_ok ht hb2
  have st := topT_size o1 o2
  have s1 : tPages.size = 6 := rfl
  have s2 : tLF.size = 1 := rfl
  have s3 : tPage.size = 5 := rfl
  have s4 : tSp.size = 1 := rfl
  have s5 : tGt.size = 1 := rfl
  refine Digits_w o1 (by omega) ?_
  have st' := st
  unfold topT at st'
  simp only [bsz] at st'
  have k1 : tPages.size + (itoaS p.Pages).size ≤ 9223372036854775807 := by omega
  have k2 : (tPages ++ itoaS p.Pages).size + tLF.size ≤ 9223372036854775807 := by simp only [bsz]; omega
  refine ⟨k1, k2, ?_⟩
  refine wfor (fun s => s.2) (fun n => ((p.Changes.take n).foldl chT (topT p), (n : Int))) p.Changes.length (fun _ => True) (fun _ _ => rfl) rfl trivial ?_ ?_
  · intro n hn _ K hK
    try dsimp only
    rw [if_pos (by omega)]
    refine ⟨by omega, p.Changes[n], get_some _ hn, ?_⟩
    have hc := o3 _ (List.getElem_mem hn)
    have hK := hK trivial
    rw [take_snoc _ hn, List.foldl_append] at hK
    have hsz := fold_size (p.Changes.take n) (fun c hc => o3 c (List.mem_of_mem_take hc)) (topT p)
    have hln : (p.Changes.take n).length = n := by rw [List.length_take]; omega
    rw [hln] at hsz
    have ha : ((p.Changes.take n).foldl chT (topT p)).size ≤ 70000000000 := by omega
    generalize (p.Changes.take n).foldl chT (topT p) = a at hK ha ⊢
    generalize p.Changes[n] = c at hc hK ⊢
    have hh := hdT_size hc
    have hh' := hh
    unfold hdT at hh'
    simp only [bsz] at hh'
    have j1 : a.size + tPage.size ≤ 9223372036854775807 := by omega
    have j2 : (a ++ tPage).size + (itoaS c.Page).size ≤ 9223372036854775807 := by simp only [bsz]; omega
    have j3 : ((a ++ tPage) ++ itoaS c.Page).size + tSp.size ≤ 9223372036854775807 := by simp only [bsz]; omega
    have j4 : (((a ++ tPage) ++ itoaS c.Page) ++ tSp).size + (itoaS (c.Lines.length : Int)).size ≤ 9223372036854775807 := by simp only [bsz]; omega
    have j5 : ((((a ++ tPage) ++ itoaS c.Page) ++ tSp) ++ itoaS (c.Lines.length : Int)).size + tLF.size ≤ 9223372036854775807 := by simp only [bsz]; omega
    obtain ⟨q0, q1, q2, q3⟩ := hc
    refine ⟨j1, itoaS c.Page, Digits_w q0 (by omega) rfl, j2, j3, itoaS (c.Lines.length : Int), Digits_w (by omega) (by omega) rfl, j4, j5, ?_⟩
    have e0 : ((((a ++ tPage) ++ itoaS c.Page) ++ tSp) ++ itoaS (c.Lines.length : Int)) ++ tLF = a ++ hdT c := by
      unfold hdT
      simp only [ByteArray.append_assoc]
    have hb0 : (a ++ hdT c).size ≤ 80000000000 := by rw [bsz]; omega
    refine wfor (fun s => s.2) (fun m => ((c.Lines.take m).foldl lnT (a ++ hdT c), (m : Int))) c.Lines.length (fun _ => True) (fun _ _ => rfl) (by rw [← e0]; rfl) trivial ?_ ?_
    · intro m hm _ K2 hK2
      try dsimp only
      rw [if_pos (by omega)]
      have hK2 := hK2 trivial
      rw [take_snoc _ hm, List.foldl_append] at hK2
      have hx := q3 _ (List.getElem_mem hm)
      have hz := lns_size (c.Lines.take m) (fun x hx => q3 x (List.mem_of_mem_take hx)) (a ++ hdT c)
      have hlm : (c.Lines.take m).length = m := by rw [List.length_take]; omega
      rw [hlm] at hz
      generalize (c.Lines.take m).foldl lnT (a ++ hdT c) = b at hK2 hz ⊢
      have i1 : b.size + tGt.size ≤ 9223372036854775807 := by omega
      have i2 : (b ++ tGt).size + c.Lines[m].size ≤ 9223372036854775807 := by simp only [bsz]; omega
      have i3 : ((b ++ tGt) ++ c.Lines[m]).size + tLF.size ≤ 9223372036854775807 := by simp only [bsz]; omega
      exact ⟨i1, by omega, c.Lines[m], get_some _ hm, i2, i3, i64_lt (by omega) (by omega), hK2⟩
    · intro _ K2
      try dsimp only
      rw [if_neg (by omega), List.take_length]
      exact ⟨i64_lt (by omega) (by omega), hK⟩
  · intro _ K
    try dsimp only
    rw [if_neg (by omega), List.take_length]; exact h

theorem Write_w (p : ApiPatch) (hb : p.Changes.length ≤ 60) (hb2 : ∀ c ∈ p.Changes, c.Lines.length ≤ 60 ∧ ∀ x ∈ c.Lines, x.size ≤ 200) {Q : ByteArray × Int → Prop} (h : Q (resT p)) : patch_Write.w p Q := by
  unfold patch_Write.w
  refine right_w p hb (fun c hc => (hb2 c hc).1) (ite_intro (fun h1 => ?_) fun h1 => ?_)
  · unfold resT at h
    rw [if_neg (by simpa using h1)] at h; exact h
  have ht : toldB p = true := by simpa using h1
  unfold resT at h
  rw [if_pos ht] at h
  obtain ⟨o1, o2, o3⟩ := told_ok ht hb2
  have st := topT_size o1 o2
  have s1 : tPages.size = 6 := rfl
  have s2 : tLF.size = 1 := rfl
  have s3 : tPage.size = 5 := rfl
  have s4 : tSp.size = 1 := rfl
  have s5 : tGt.size = 1 := rfl
  have st' := st
  unfold topT at st'
  simp only [bsz] at st'
  have k1 : tPages.size + (itoaS p.Pages).size ≤ 9223372036854775807 := by omega
  have k2 : (tPages ++ itoaS p.Pages).size + tLF.size ≤ 9223372036854775807 := by simp only [bsz]; omega
  refine ⟨i64_lt (by omega) (by omega), k1, k2, ?_⟩
  unfold strings_Builder_WriteString_i0.w
  have st2 : (strInts (topT p)).length ≤ 1000000100 := by rw [strInts_length]; exact st
  refine ⟨by have : (strInts (topT p)).length ≤ 1000000100 := st2; simp only [List.length_nil]; exact Nat.le_trans (by unfold topT at this; simpa using this) (by decide : 1000000100 ≤ 140737488355328), ?_⟩
  refine wfor (fun s => s.2.2) (fun n => (strInts ((p.Changes.take n).foldl chT (topT p)), true, (n : Int))) p.Changes.length (fun _ => True) (fun _ _ => rfl) rfl trivial ?_ ?_
  · intro n hn _ K hK
    try dsimp only
    rw [if_pos (by omega)]
    refine ⟨by omega, p.Changes[n], get_some _ hn, ?_⟩
    have hc := o3 _ (List.getElem_mem hn)
    have hK := hK trivial
    rw [take_snoc _ hn, List.foldl_append] at hK
    have hsz := fold_size (p.Changes.take n) (fun c hc => o3 c (List.mem_of_mem_take hc)) (topT p)
    have hln : (p.Changes.take n).length = n := by rw [List.length_take]; omega
    rw [hln] at hsz
    have ha : ((p.Changes.take n).foldl chT (topT p)).size ≤ 70000000000 := by omega
    generalize (p.Changes.take n).foldl chT (topT p) = a at hK ha ⊢
    generalize p.Changes[n] = c at hc hK ⊢
    have hh := hdT_size hc
    have hh' := hh
    unfold hdT at hh'
    simp only [bsz] at hh'
    have j2 : tPage.size + (itoaS c.Page).size ≤ 9223372036854775807 := by omega
    have j3 : (tPage ++ itoaS c.Page).size + tSp.size ≤ 9223372036854775807 := by simp only [bsz]; omega
    have j4 : ((tPage ++ itoaS c.Page) ++ tSp).size + (itoaS (c.Lines.length : Int)).size ≤ 9223372036854775807 := by simp only [bsz]; omega
    have j5 : (((tPage ++ itoaS c.Page) ++ tSp) ++ itoaS (c.Lines.length : Int)).size + tLF.size ≤ 9223372036854775807 := by simp only [bsz]; omega
    obtain ⟨q0, q1, q2, q3⟩ := hc
    have hb0 : (a ++ hdT c).size ≤ 80000000000 := by rw [bsz]; omega
    have hb1 : ((strInts a).length + (strInts (hdT c)).length) * 1 ≤ 140737488355328 := by rw [strInts_length, strInts_length]; omega
    refine ⟨itoaS c.Page, ⟨i64_lt (by omega) (by omega), rfl⟩, j2, j3, itoaS (c.Lines.length : Int), ⟨i64_lt (by omega) (by omega), rfl⟩, j4, j5, hb1, ?_⟩
    refine wfor (fun s => s.2.2) (fun m => (strInts ((c.Lines.take m).foldl lnT (a ++ hdT c)), true, (m : Int))) c.Lines.length (fun _ => True) (fun _ _ => rfl) (by rw [List.take_zero, List.foldl_nil, strInts_append a (hdT c)]; rfl) trivial ?_ ?_
    · intro m hm _ K2 hK2
      try dsimp only
      rw [if_pos (by omega)]
      have hK2 := hK2 trivial
      rw [take_snoc _ hm, List.foldl_append] at hK2
      have hx := q3 _ (List.getElem_mem hm)
      have hz := lns_size (c.Lines.take m) (fun x hx => q3 x (List.mem_of_mem_take hx)) (a ++ hdT c)
      have hlm : (c.Lines.take m).length = m := by rw [List.length_take]; omega
      rw [hlm] at hz
      generalize (c.Lines.take m).foldl lnT (a ++ hdT c) = b at hK2 hz ⊢
      have i2 : tGt.size + c.Lines[m].size ≤ 9223372036854775807 := by omega
      have i3 : (tGt ++ c.Lines[m]).size + tLF.size ≤ 9223372036854775807 := by simp only [bsz]; omega
      have i4 : ((strInts b).length + (strInts ((tGt ++ c.Lines[m]) ++ tLF)).length) * 1 ≤ 140737488355328 := by
        rw [strInts_length, strInts_length]; simp only [bsz]; omega
      refine ⟨by omega, c.Lines[m], get_some _ hm, i2, i3, i4, i64_lt (by omega) (by omega), ?_⟩
      have e : strInts b ++ strInts ((tGt ++ c.Lines[m]) ++ tLF) = strInts (lnT b c.Lines[m]) := by
        unfold lnT
        rw [← strInts_append]
        simp only [ByteArray.append_assoc]
      have : K2 (strInts b ++ strInts ((tGt ++ c.Lines[m]) ++ tLF), true, (m : Int) + 1) := by rw [e]; exact hK2
      exact this
    · intro _ K2
      try dsimp only
      rw [if_neg (by omega), List.take_length]
      exact ⟨i64_lt (by omega) (by omega), hK⟩
  · intro _ K
    try dsimp only
    rw [if_neg (by omega), List.take_length]
    have hz := fold_size p.Changes o3 (topT p)
    have hne : (textT p).size ≠ 0 := by
      have : ∀ (l : List ApiChange) (a : ByteArray), a.size ≤ (l.foldl chT a).size := by
        intro l
        induction l with
        | nil => intro a; exact Nat.le_refl _
        | cons c l ih =>
          intro a
          have h2 : ∀ (l : List ByteArray) (a : ByteArray), a.size ≤ (l.foldl lnT a).size := by
            intro l
            induction l with
            | nil => intro a; exact Nat.le_refl _
            | cons x l ih =>
              intro a
              have := ih (lnT a x)
              have e : (lnT a x).size = a.size + tGt.size + x.size + tLF.size := by simp only [lnT, bsz]
              simp only [List.foldl_cons]; omega
          have h3 := h2 c.Lines (a ++ hdT c)
          rw [bsz] at h3
          have h4 := ih (chT a c)
          simp only [List.foldl_cons]
          unfold chT at h4 ⊢
          omega
      have h2 := this p.Changes (topT p)
      have h3 : (topT p).size = tPages.size + (itoaS p.Pages).size + tLF.size := by unfold topT; simp only [bsz]
      unfold textT; omega
    exact ⟨textT p, rfl, hne, by unfold textT; omega, h⟩

/-! ### a patch, done on any pages -/
def runD (was : List (List ByteArray)) : Nat → List ApiChange → List (List ByteArray) → Option (List (List ByteArray))
  | 0, [], out => some out
  | 0, _ :: _, _ => none
  | k + 1, [], out => (was[out.length]?).bind fun l => runD was k [] (out ++ [l])
  | k + 1, c :: cs, out => if c.Page = (out.length : Int) + 1 then runD was k cs (out ++ [c.Lines]) else (was[out.length]?).bind fun l => runD was k (c :: cs) (out ++ [l])
def doP (was : List (List ByteArray)) (p : ApiPatch) : Option (List (List ByteArray)) := if p.Pages < 0 ∨ (was.length : Int) + (p.Changes.length : Int) < p.Pages then none else runD was p.Pages.toNat p.Changes []
def resD : Option (List (List ByteArray)) → List (List ByteArray) × Int
  | none => ([], 1)
  | some o => (o, 0)
theorem Doany_w (was : List (List ByteArray)) (p : ApiPatch) (h0 : was.length ≤ 60) (h0' : ∀ v ∈ was, v.length ≤ 60) (h1 : p.Changes.length ≤ 60) (h2 : ∀ c ∈ p.Changes, c.Lines.length ≤ 60) {Q : List (List ByteArray) × Int → Prop} (h : Q (resD (doP was p))) : patch_Do.w was p Q := by
  unfold patch_Do.w
  refine ite_intro (fun c1 => ?_) fun c1 => ⟨i64_lt (by omega) (by omega), ite_intro (fun c2 => ?_) fun c2 => ?_⟩
  · unfold doP at h; rw [if_pos (Or.inl c1)] at h; exact h
  · unfold doP at h; rw [if_pos (Or.inr c2)] at h; exact h
  unfold doP at h; rw [if_neg (by omega)] at h
  refine ⟨fun s => ∃ k, s.2.length + k = p.Pages.toNat ∧ (∀ c ∈ s.1.Changes, c.Lines.length ≤ 60) ∧ Q (resD (runD was k s.1.Changes s.2)), fun s => (p.Pages.toNat - s.2.length), ⟨p.Pages.toNat, by simp, h2, h⟩, ?_⟩
  rintro ⟨a1, a2⟩ ⟨k, e1, hl, hq⟩
  dsimp only at e1 hl hq ⊢
  cases k with
  | zero =>
    rw [if_neg (by omega)]
    cases hc : a1.Changes with
    | nil => rw [hc] at hq; rw [if_neg (by simp)]; exact hq
    | cons c cs => rw [hc] at hq; rw [if_pos (by simp only [List.length_cons]; omega)]; exact hq
  | succ k =>
    rw [if_pos (by omega)]
    have was_path : (∀ c cs, a1.Changes = c :: cs → c.Page ≠ (a2.length : Int) + 1) → Q (resD ((was[a2.length]?).bind fun l => runD was k a1.Changes (a2 ++ [l]))) → patch_book_page_i0.w was a1 a2 (fun r1 v1 v2 => if (!r1) = true then Q (([] : List (List ByteArray)), 1) else (∃ k, v2.length + k = p.Pages.toNat ∧ (∀ c ∈ v1.Changes, c.Lines.length ≤ 60) ∧ Q (resD (runD was k v1.Changes v2))) ∧ p.Pages.toNat - v2.length < p.Pages.toNat - a2.length) := by
      intro hne hq
      by_cases hw : a2.length < was.length
      · rw [List.getElem?_eq_getElem hw] at hq
        refine page_was was a1 a2 hne (by omega) hw (by have := h0' _ (List.getElem_mem hw); omega) ?_
        rw [if_neg (by simp)]
        exact ⟨⟨k, by simp; omega, hl, hq⟩, by simp; omega⟩
      · rw [List.getElem?_eq_none (by omega)] at hq
        unfold patch_book_page_i0.w wcut
        dsimp only
        have key : (if false = true then
            ∃ v2 : ApiChange, a1.Changes[0]? = some v2 ∧
            ∃ r1 : List ByteArray, slices_Clone_string_string.w v2.Lines (fun r' => r' = r1) ∧
            ((a2.length + ([r1] : List (List ByteArray)).length) * 24 ≤ 140737488355328) ∧
            (1 ≤ a1.Changes.length) ∧
            (if (!true) = true then Q (([] : List (List ByteArray)), 1) else (∃ k, (a2 ++ ([r1] : List (List ByteArray))).length + k = p.Pages.toNat ∧ (∀ c ∈ (⟨a1.Pages, a1.Changes.drop 1⟩ : ApiPatch).Changes, c.Lines.length ≤ 60) ∧ Q (resD (runD was k (⟨a1.Pages, a1.Changes.drop 1⟩ : ApiPatch).Changes (a2 ++ ([r1] : List (List ByteArray)))))) ∧ p.Pages.toNat - (a2 ++ ([r1] : List (List ByteArray))).length < p.Pages.toNat - a2.length)
          else
            if (was.length : Int) ≤ (a2.length : Int) then
              (if (!false) = true then Q (([] : List (List ByteArray)), 1) else (∃ k, a2.length + k = p.Pages.toNat ∧ (∀ c ∈ a1.Changes, c.Lines.length ≤ 60) ∧ Q (resD (runD was k a1.Changes a2))) ∧ p.Pages.toNat - a2.length < p.Pages.toNat - a2.length)
            else
              ∃ v3 : List ByteArray, was[a2.length]? = some v3 ∧
              ∃ r2 : List ByteArray, slices_Clone_string_string.w v3 (fun r' => r' = r2) ∧
              ((a2.length + ([r2] : List (List ByteArray)).length) * 24 ≤ 140737488355328) ∧
              (if (!true) = true then Q (([] : List (List ByteArray)), 1) else (∃ k, (a2 ++ ([r2] : List (List ByteArray))).length + k = p.Pages.toNat ∧ (∀ c ∈ a1.Changes, c.Lines.length ≤ 60) ∧ Q (resD (runD was k a1.Changes (a2 ++ ([r2] : List (List ByteArray)))))) ∧ p.Pages.toNat - (a2 ++ ([r2] : List (List ByteArray))).length < p.Pages.toNat - a2.length)) := by
          rw [if_neg (by simp), if_pos (by omega), if_pos (by simp)]
          exact hq
        cases hc : a1.Changes with
        | nil => rw [hc] at key; rw [if_neg (by simp)]; exact key
        | cons c cs =>
          rw [if_pos (by simp only [List.length_cons]; omega)]
          refine ⟨c, rfl, i64_lt (by omega) (by omega), ?_⟩
          try dsimp only
          rw [hc] at key
          rw [decide_eq_false (hne c cs hc)]
          exact key
    cases hc : a1.Changes with
    | nil =>
      refine was_path (fun c cs e => by rw [hc] at e; cases e) ?_
      rw [hc] at hq ⊢; exact hq
    | cons c cs =>
      rw [hc] at hq
      by_cases e : c.Page = (a2.length : Int) + 1
      · unfold runD at hq
        rw [if_pos e] at hq
        refine page_hit was a1 c cs a2 hc e (by omega) (by have := hl c (by rw [hc]; simp); omega) ?_
        rw [if_neg (by simp)]
        exact ⟨⟨k, by simp; omega, fun d hd => hl d (by rw [hc]; simp [show d ∈ cs from hd]), hq⟩, by simp; omega⟩
      · refine was_path (fun c' cs' e' => by rw [hc] at e'; cases e'; exact e) ?_
        unfold runD at hq
        rw [if_neg e] at hq
        rw [hc]; exact hq
end Go.Proofs.YtlnjajfagildnaaDoor
