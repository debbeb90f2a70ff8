/- PatchTexts' functions, plainly: what may be told, a patch's text, of greater bounds than PatchDoes asks for. -/
import Derived.Test.YtggcmnoacplbkaaDoorPuc
import Derived.Lib.IndexLaws
namespace Go.Proofs.YtggcmnoacplbkaaDoor
open Go Go.Proofs.YtggcmnoacplbkaaDoor.AM
set_option linter.unusedVariables false
set_option linter.unusedSimpArgs false

theorem awake_w {Q : Bool → Prop} (h : Q true) : styluslaw35_awake.w Q := by
  unfold styluslaw35_awake.w
  refine Of_w exW exN (by decide) (by decide) (by decide) ?_
  rw [ofP_ex]
  refine Write_c ?_
  have d := Do_w exW exN (by decide) (by decide) (by decide) (Q := fun r3 => stylusref35_Same.w pc pc (fun r4 =>
          if r4 = true then
            if tx4 = tx4 then
              if (0 : Int) = 0 then
                if r3.2 = 0 then
                  stylusref35_Pages.w r3.1 exN (fun r5 =>
                    if r5 = true then
                      patch_Of.w ([([(ByteArray.mk #[97])] : List ByteArray), ([(ByteArray.mk #[98])] : List ByteArray)] : List (List ByteArray)) ([([(ByteArray.mk #[97])] : List ByteArray)] : List (List ByteArray)) (fun r6 =>
                        stylusref35_Same.w r6 (⟨1, ([] : List ApiChange)⟩ : ApiPatch) (fun r7 =>
                          if r7 = true then
                            patch_Of.w ([] : List (List ByteArray)) ([] : List (List ByteArray)) (fun r8 =>
                              stylusref35_Same.w r8 (⟨0, ([] : List ApiChange)⟩ : ApiPatch) (fun r9 =>
                                Q r9))
                          else
                            Q false))
                    else
                      Q false)
                else
                  Q false
              else
                Q false
            else
              Q false
          else
            Q false))
  rw [ofP_ex] at d
  refine d ?_
  refine Same_w _ _ (by decide) (by decide) ?_
  rw [decide_eq_true rfl, if_pos rfl, if_pos rfl, if_pos rfl, if_pos rfl]
  refine Pages_w _ _ (by decide) (by decide) ?_
  rw [decide_eq_true rfl, if_pos rfl]
  refine Of_w _ _ (by decide) (by decide) (by decide) ?_
  refine Same_w _ _ (by decide) (by decide) ?_
  rw [decide_eq_true (by decide), if_pos rfl]
  refine Of_w _ _ (by decide) (by decide) (by decide) ?_
  refine Same_w _ _ (by decide) (by decide) ?_
  rw [decide_eq_true (by decide)]
  exact h

theorem ite_intro {p : Prop} [Decidable p] {A B : Prop} (h : p → A) (h' : ¬ p → B) : if p then A else B := by
  by_cases c : p
  · rw [if_pos c]; exact h c
  · rw [if_neg c]; exact h' c
theorem take_snoc {α : Type} (l : List α) {n : Nat} (h : n < l.length) : l.take (n + 1) = l.take n ++ [l[n]] := by rw [List.take_add_one]; simp [h]

/-! ### bounds -/
theorem wide2_w (l : List ByteArray) (hb : l.length ≤ big) {Q : Bool → Prop} (h : ∀ r, (r = false → l.length ≤ 60 ∧ ∀ x ∈ l, x.size ≤ 200) → Q r) : styluslaw35_wide.w l Q := by
  unfold big at hb
  unfold styluslaw35_wide.w
  refine wfor (fun i => i) (fun n => (n : Int)) l.length (fun n => ∀ x ∈ l.take n, x.size ≤ 200) (fun _ _ => rfl) rfl (by simp) ?_ ?_
  · intro n hn hp K hK
    try dsimp only
    rw [if_pos (by omega)]
    refine ⟨by omega, l[n], get_some l hn, ite_intro (fun _ => h true (fun e => by cases e)) fun h2 => ⟨i64_lt (by omega) (by omega), ?_⟩⟩
    have := hK (fun x hx => by
      rw [take_snoc l hn] at hx
      rcases List.mem_append.1 hx with hx | hx
      · exact hp x hx
      · rw [List.mem_singleton] at hx; subst hx; omega)
    simpa using this
  · intro hp K
    try dsimp only
    rw [if_neg (by omega)]
    rw [List.take_length] at hp
    exact h _ (fun e => ⟨by simp at e; omega, hp⟩)
theorem many_w (p : ApiPatch) (hb : p.Changes.length ≤ big) (hb2 : ∀ c ∈ p.Changes, c.Lines.length ≤ big) {Q : Bool → Prop} (h : ∀ r, (r = false → p.Changes.length ≤ 60 ∧ ∀ c ∈ p.Changes, c.Lines.length ≤ 60 ∧ ∀ x ∈ c.Lines, x.size ≤ 200) → Q r) : styluslaw35_many.w p Q := by
  unfold big at hb
  unfold styluslaw35_many.w
  refine wfor (fun i => i) (fun n => (n : Int)) p.Changes.length (fun n => ∀ c ∈ p.Changes.take n, c.Lines.length ≤ 60 ∧ ∀ x ∈ c.Lines, x.size ≤ 200) (fun _ _ => rfl) rfl (by simp) ?_ ?_
  · intro n hn hp K hK
    try dsimp only
    rw [if_pos (by omega)]
    refine ⟨by omega, p.Changes[n], get_some _ hn, wide2_w _ (hb2 _ (List.getElem_mem hn)) fun r hr => ite_intro (fun _ => h true (fun e => by cases e)) fun h2 => ⟨i64_lt (by omega) (by omega), ?_⟩⟩
    have hr := hr (by simpa using h2)
    have := hK (fun x hx => by
      rw [take_snoc _ hn] at hx
      rcases List.mem_append.1 hx with hx | hx
      · exact hp x hx
      · rw [List.mem_singleton] at hx; subst hx; exact hr)
    simpa using this
  · intro hp K
    try dsimp only
    rw [if_neg (by omega)]
    rw [List.take_length] at hp
    exact h _ (fun e => ⟨by simp at e; omega, hp⟩)
def risingF (P : Int) : Int → List ApiChange → Bool
  | _, [] => true
  | last, c :: cs => decide (last < c.Page) && (decide (c.Page ≤ P) && risingF P c.Page cs)
def rising (p : ApiPatch) : Bool := risingF p.Pages 0 p.Changes && decide (0 ≤ p.Pages)
def lastP (l : List ApiChange) (n : Nat) : Int := if h : 0 < n ∧ n ≤ l.length then (l[n - 1]'(by omega)).Page else 0
theorem lastP_succ (l : List ApiChange) {n : Nat} (h : n < l.length) : lastP l (n + 1) = l[n].Page := by
  unfold lastP; rw [dif_pos ⟨by omega, by omega⟩]; simp
theorem risingF_false {P last : Int} {c : ApiChange} {cs : List ApiChange} (h : c.Page ≤ last ∨ P < c.Page) : risingF P last (c :: cs) = false := by
  unfold risingF
  rcases h with h | h
  · rw [decide_eq_false (by omega)]; rfl
  · rw [decide_eq_false (p := c.Page ≤ P) (by omega)]; simp
theorem risingF_true {P last : Int} {c : ApiChange} {cs : List ApiChange} (h : last < c.Page) (h' : c.Page ≤ P) : risingF P last (c :: cs) = risingF P c.Page cs := by
  conv => lhs; unfold risingF
  rw [decide_eq_true h, decide_eq_true h']; simp

theorem oneByte_iff (s : ByteArray) (c : UInt8) : oneByte s c = true ↔ c ∈ s.data.toList := by
  unfold oneByte
  rw [decide_eq_true_iff]
  constructor
  · intro h
    obtain ⟨o, ho⟩ := Int.eq_ofNat_of_zero_le h
    exact List.mem_of_getElem? (Lib.indexByte_some ho).1
  · intro h
    have hge := Lib.indexByte_ge s.data.toList c
    by_cases e : Lib.indexByte s.data.toList c = -1
    · obtain ⟨k, hk, e2⟩ := List.getElem_of_mem h
      exact absurd (by rw [List.getElem?_eq_getElem hk, e2]) (Lib.indexByte_none e k)
    · omega
def lfs (l : List ByteArray) : Bool := l.any fun s => oneByte s 10
def hasLF (p : ApiPatch) : Bool := p.Changes.any fun c => lfs c.Lines
def toldB (p : ApiPatch) : Bool := (risingF p.Pages 0 p.Changes && !hasLF p) && (decide (0 ≤ p.Pages) && decide (p.Pages ≤ 999999999))
theorem any_snoc {α : Type} (f : α → Bool) (l : List α) {n : Nat} (hn : n < l.length) : (l.take (n + 1)).any f = ((l.take n).any f || f l[n]) := by rw [take_snoc l hn, List.any_append, List.any_cons, List.any_nil, Bool.or_false]
theorem any_true_take {α : Type} {f : α → Bool} {l : List α} {n : Nat} (hn : n < l.length) (h : f l[n] = true) : l.any f = true := List.any_eq_true.2 ⟨l[n], List.getElem_mem hn, h⟩

theorem contains_w (l : List ByteArray) (hb : l.length ≤ big) {Q : Bool → Prop} (h : Q (lfs l)) : slices_ContainsFunc_string_string_i0.w l Q := by
  unfold big at hb
  unfold slices_ContainsFunc_string_string_i0.w slices_IndexFunc_string_string_i0.w
  refine wfor (fun i => i) (fun n => (n : Int)) l.length (fun n => (l.take n).any (fun s => oneByte s 10) = false) (fun _ _ => rfl) rfl (by simp) ?_ ?_
  · intro n hn hp K hK
    try dsimp only
    rw [if_pos (by omega)]
    refine ⟨by omega, l[n], get_some l hn, ⟨10, rfl, ite_intro (fun h1 => ?_) fun h1 => ⟨i64_lt (by omega) (by omega), ?_⟩⟩⟩
    · have : lfs l = true := any_true_take (f := fun s => oneByte s 10) hn h1
      rw [this] at h
      rw [decide_eq_true (by omega)]; exact h
    · have := hK (by rw [any_snoc _ l hn, hp]; simpa using h1)
      simpa using this
  · intro hp K
    try dsimp only
    rw [if_neg (by omega)]
    rw [List.take_length] at hp
    have : lfs l = false := hp
    rw [this] at h
    simpa using h

theorem right_w (p : ApiPatch) (hb : p.Changes.length ≤ 3000) (hb2 : ∀ c ∈ p.Changes, c.Lines.length ≤ 3000) {Q : Bool → Prop} (h : Q (toldB p)) : patch_right.w p Q := by
  unfold patch_right.w
  refine wfor (fun s => s.2) (fun n => (lastP p.Changes n, (n : Int))) p.Changes.length (fun n => risingF p.Pages 0 p.Changes = risingF p.Pages (lastP p.Changes n) (p.Changes.drop n) ∧ (p.Changes.take n).any (fun c => lfs c.Lines) = false) (fun _ _ => rfl) (by simp [lastP]) ⟨by simp [lastP], by simp⟩ ?_ ?_
  · rintro n hn ⟨hp, hlf⟩ K hK
    try dsimp only
    rw [if_pos (by omega)]
    rw [List.drop_eq_getElem_cons hn] at hp
    have bad : (p.Changes[n].Page ≤ lastP p.Changes n ∨ p.Pages < p.Changes[n].Page) → Q false := fun hh => by
      unfold toldB at h
      rw [hp, risingF_false hh] at h; simpa using h
    refine ⟨by omega, p.Changes[n], get_some _ hn, ite_intro (fun h1 => bad (Or.inl h1)) fun h1 => ite_intro (fun h2 => bad (Or.inr h2)) fun h2 => ?_⟩
    have hl := hb2 _ (List.getElem_mem hn)
    rw [if_neg (by omega)]
    refine contains_w _ (by unfold big; omega) (ite_intro (fun h3 => ?_) fun h3 => ⟨i64_lt (by omega) (by omega), ?_⟩)
    · have : hasLF p = true := any_true_take (f := fun c : ApiChange => lfs c.Lines) hn h3
      unfold toldB at h
      rw [this] at h; simpa using h
    · have := hK ⟨by rw [hp, risingF_true (by omega) (by omega), lastP_succ _ hn], by rw [any_snoc _ _ hn, hlf]; simpa using h3⟩
      rw [lastP_succ _ hn] at this
      simpa using this
  · rintro ⟨hp, hlf⟩ K
    try dsimp only
    rw [if_neg (by omega)]
    rw [List.drop_length] at hp
    rw [List.take_length] at hlf
    have hlf : hasLF p = false := hlf
    unfold toldB at h
    rw [hp, hlf] at h
    refine ite_intro (fun h1 => ?_) fun h1 => ?_
    · simpa [risingF, h1] using h
    · simpa [risingF, h1] using h

theorem decDigits_le (u : Nat) : (Lib.decDigits u).length ≤ u + 1 := by
  induction u using Nat.strongRecOn with
  | _ u ih =>
    rw [Lib.decDigits]
    split
    · simp
    · have := ih (u / 10) (by omega)
      simp; omega
theorem itoaS_size (n : Nat) : (itoaS (n : Int)).size ≤ n + 1 := by
  unfold itoaS Lib.itoa
  rw [if_neg (by omega), Int.toNat_natCast]
  exact decDigits_le n
abbrev tPages : ByteArray := ByteArray.mk #[112, 97, 103, 101, 115, 32]
abbrev tPage : ByteArray := ByteArray.mk #[112, 97, 103, 101, 32]
abbrev tSp : ByteArray := ByteArray.mk #[32]
abbrev tLF : ByteArray := ByteArray.mk #[10]
abbrev tGt : ByteArray := ByteArray.mk #[62]
def lnT (a s : ByteArray) : ByteArray := ((a ++ tGt) ++ s) ++ tLF
def hdT (c : ApiChange) : ByteArray := (((tPage ++ itoaS c.Page) ++ tSp) ++ itoaS (c.Lines.length : Int)) ++ tLF
def chT (a : ByteArray) (c : ApiChange) : ByteArray := c.Lines.foldl lnT (a ++ hdT c)
def topT (p : ApiPatch) : ByteArray := (tPages ++ itoaS p.Pages) ++ tLF
def textT (p : ApiPatch) : ByteArray := p.Changes.foldl chT (topT p)
theorem bsz (a b : ByteArray) : (a ++ b).size = a.size + b.size := ByteArray.size_append
theorem lns_size (l : List ByteArray) (h : ∀ x ∈ l, x.size ≤ 3000) : ∀ a : ByteArray, (l.foldl lnT a).size ≤ a.size + 3002 * l.length := by
  induction l with
  | nil => intro a; simp
  | cons x l ih =>
    intro a
    have hx := h x (by simp)
    have := ih (fun y hy => h y (by simp [hy])) (lnT a x)
    have e : (lnT a x).size = a.size + 1 + x.size + 1 := by simp only [lnT, bsz]; rfl
    simp only [List.foldl_cons, List.length_cons]
    omega
def OkC (c : ApiChange) : Prop := 0 ≤ c.Page ∧ c.Page ≤ 999999999 ∧ c.Lines.length ≤ 3000 ∧ ∀ x ∈ c.Lines, x.size ≤ 3000
theorem hdT_size {c : ApiChange} (h : OkC c) : (hdT c).size ≤ 1000004000 := by
  obtain ⟨h0, h1, h2, _⟩ := h
  obtain ⟨u, e⟩ := Int.eq_ofNat_of_zero_le h0
  unfold hdT
  rw [e]
  have a := itoaS_size u
  have b := itoaS_size c.Lines.length
  simp only [bsz]
  have : tPage.size = 5 := rfl
  have : tSp.size = 1 := rfl
  have : tLF.size = 1 := rfl
  omega
theorem chT_size {c : ApiChange} (h : OkC c) (a : ByteArray) : (chT a c).size ≤ a.size + 1020000000 := by
  have h1 := lns_size c.Lines h.2.2.2 (a ++ hdT c)
  have h2 := hdT_size h
  rw [bsz] at h1
  have := h.2.2.1
  unfold chT; omega
theorem fold_size (l : List ApiChange) (h : ∀ c ∈ l, OkC c) : ∀ a : ByteArray, (l.foldl chT a).size ≤ a.size + 1020000000 * l.length := by
  induction l with
  | nil => intro a; simp
  | cons c l ih =>
    intro a
    have := ih (fun y hy => h y (by simp [hy])) (chT a c)
    have h2 := chT_size (h c (by simp)) a
    simp only [List.foldl_cons, List.length_cons]
    omega
theorem risingF_pages {P : Int} : ∀ {l : List ApiChange} {last : Int}, risingF P last l = true → ∀ c ∈ l, last < c.Page ∧ c.Page ≤ P
  | [], _, _, c, hc => by simp at hc
  | d :: l, last, h, c, hc => by
    unfold risingF at h
    simp only [Bool.and_eq_true, decide_eq_true_eq] at h
    rcases List.mem_cons.1 hc with rfl | hc
    · exact ⟨h.1, h.2.1⟩
    · have := risingF_pages h.2.2 c hc
      omega
theorem told_ok {p : ApiPatch} (h : toldB p = true) (hb2 : ∀ c ∈ p.Changes, c.Lines.length ≤ 3000 ∧ ∀ x ∈ c.Lines, x.size ≤ 3000) : 0 ≤ p.Pages ∧ p.Pages ≤ 999999999 ∧ ∀ c ∈ p.Changes, OkC c := by
  unfold toldB at h
  simp only [Bool.and_eq_true, decide_eq_true_eq] at h
  refine ⟨h.2.1, h.2.2, fun c hc => ?_⟩
  have := risingF_pages h.1.1 c hc
  exact ⟨by omega, by omega, (hb2 c hc).1, (hb2 c hc).2⟩
theorem topT_size {p : ApiPatch} (h0 : 0 ≤ p.Pages) (h1 : p.Pages ≤ 999999999) : (topT p).size ≤ 1000004000 := by
  obtain ⟨u, e⟩ := Int.eq_ofNat_of_zero_le h0
  unfold topT
  rw [e]
  have a := itoaS_size u
  simp only [bsz]
  have : tPages.size = 6 := rfl
  have : tLF.size = 1 := rfl
  omega

def resT (p : ApiPatch) : ByteArray × Int := if toldB p = true then (textT p, 0) else (ByteArray.mk #[], 1)
theorem Write_w (p : ApiPatch) (hb : p.Changes.length ≤ 3000) (hb2 : ∀ c ∈ p.Changes, c.Lines.length ≤ 3000 ∧ ∀ x ∈ c.Lines, x.size ≤ 3000) {Q : ByteArray × Int → Prop} (h : Q (resT p)) : patch_Write.w p Q := by
  unfold patch_Write.w
  refine right_w p hb (fun c hc => (hb2 c hc).1) (ite_intro (fun h1 => ?_) fun h1 => ?_)
  · unfold resT at h
    rw [if_neg (by simpa using h1)] at h; exact h
  have ht : toldB p = true := by simpa using h1
  unfold resT at h
  rw [if_pos ht] at h
  obtain ⟨o1, o2, o3⟩ := told_ok ht hb2
  have st := topT_size o1 o2
  have s1 : tPages.size = 6 := rfl
  have s2 : tLF.size = 1 := rfl
  have s3 : tPage.size = 5 := rfl
  have s4 : tSp.size = 1 := rfl
  have s5 : tGt.size = 1 := rfl
  have st' := st
  unfold topT at st'
  simp only [bsz] at st'
  have k1 : tPages.size + (itoaS p.Pages).size ≤ 9223372036854775807 := by omega
  have k2 : (tPages ++ itoaS p.Pages).size + tLF.size ≤ 9223372036854775807 := by simp only [bsz]; omega
  refine ⟨i64_lt (by omega) (by omega), k1, k2, ?_⟩
  unfold strings_Builder_WriteString_i0.w
  have st2 : (strInts (topT p)).length ≤ 1000004000 := by rw [strInts_length]; exact st
  refine ⟨by have : (strInts (topT p)).length ≤ 1000004000 := st2; simp only [List.length_nil]; exact Nat.le_trans (by unfold topT at this; simpa using this) (by decide : 1000004000 ≤ 140737488355328), ?_⟩
  refine wfor (fun s => s.2.2) (fun n => (strInts ((p.Changes.take n).foldl chT (topT p)), true, (n : Int))) p.Changes.length (fun _ => True) (fun _ _ => rfl) rfl trivial ?_ ?_
  · intro n hn _ K hK
    try dsimp only
    rw [if_pos (by omega)]
    refine ⟨by omega, p.Changes[n], get_some _ hn, ?_⟩
    have hc := o3 _ (List.getElem_mem hn)
    have hK := hK trivial
    rw [take_snoc _ hn, List.foldl_append] at hK
    have hsz := fold_size (p.Changes.take n) (fun c hc => o3 c (List.mem_of_mem_take hc)) (topT p)
    have hln : (p.Changes.take n).length = n := by rw [List.length_take]; omega
    rw [hln] at hsz
    have ha : ((p.Changes.take n).foldl chT (topT p)).size ≤ 4000000000000 := by omega
    generalize (p.Changes.take n).foldl chT (topT p) = a at hK ha ⊢
    generalize p.Changes[n] = c at hc hK ⊢
    have hh := hdT_size hc
    have hh' := hh
    unfold hdT at hh'
    simp only [bsz] at hh'
    have j2 : tPage.size + (itoaS c.Page).size ≤ 9223372036854775807 := by omega
    have j3 : (tPage ++ itoaS c.Page).size + tSp.size ≤ 9223372036854775807 := by simp only [bsz]; omega
    have j4 : ((tPage ++ itoaS c.Page) ++ tSp).size + (itoaS (c.Lines.length : Int)).size ≤ 9223372036854775807 := by simp only [bsz]; omega
    have j5 : (((tPage ++ itoaS c.Page) ++ tSp) ++ itoaS (c.Lines.length : Int)).size + tLF.size ≤ 9223372036854775807 := by simp only [bsz]; omega
    obtain ⟨q0, q1, q2, q3⟩ := hc
    have hb0 : (a ++ hdT c).size ≤ 5000000000000 := by rw [bsz]; omega
    have hb1 : ((strInts a).length + (strInts (hdT c)).length) * 1 ≤ 140737488355328 := by rw [strInts_length, strInts_length]; omega
    refine ⟨itoaS c.Page, ⟨i64_lt (by omega) (by omega), rfl⟩, j2, j3, itoaS (c.Lines.length : Int), ⟨i64_lt (by omega) (by omega), rfl⟩, j4, j5, hb1, ?_⟩
    refine wfor (fun s => s.2.2) (fun m => (strInts ((c.Lines.take m).foldl lnT (a ++ hdT c)), true, (m : Int))) c.Lines.length (fun _ => True) (fun _ _ => rfl) (by rw [List.take_zero, List.foldl_nil, strInts_append a (hdT c)]; rfl) trivial ?_ ?_
    · intro m hm _ K2 hK2
      try dsimp only
      rw [if_pos (by omega)]
      have hK2 := hK2 trivial
      rw [take_snoc _ hm, List.foldl_append] at hK2
      have hx := q3 _ (List.getElem_mem hm)
      have hz := lns_size (c.Lines.take m) (fun x hx => q3 x (List.mem_of_mem_take hx)) (a ++ hdT c)
      have hlm : (c.Lines.take m).length = m := by rw [List.length_take]; omega
      rw [hlm] at hz
      generalize (c.Lines.take m).foldl lnT (a ++ hdT c) = b at hK2 hz ⊢
      have i2 : tGt.size + c.Lines[m].size ≤ 9223372036854775807 := by omega
      have i3 : (tGt ++ c.Lines[m]).size + tLF.size ≤ 9223372036854775807 := by simp only [bsz]; omega
      have i4 : ((strInts b).length + (strInts ((tGt ++ c.Lines[m]) ++ tLF)).length) * 1 ≤ 140737488355328 := by
        rw [strInts_length, strInts_length]; simp only [bsz]; omega
      refine ⟨by omega, c.Lines[m], get_some _ hm, i2, i3, i4, i64_lt (by omega) (by omega), ?_⟩
      have e : strInts b ++ strInts ((tGt ++ c.Lines[m]) ++ tLF) = strInts (lnT b c.Lines[m]) := by
        unfold lnT
        rw [← strInts_append]
        simp only [ByteArray.append_assoc]
      have : K2 (strInts b ++ strInts ((tGt ++ c.Lines[m]) ++ tLF), true, (m : Int) + 1) := by rw [e]; exact hK2
      exact this
    · intro _ K2
      try dsimp only
      rw [if_neg (by omega), List.take_length]
      exact ⟨i64_lt (by omega) (by omega), hK⟩
  · intro _ K
    try dsimp only
    rw [if_neg (by omega), List.take_length]
    have hz := fold_size p.Changes o3 (topT p)
    have hne : (textT p).size ≠ 0 := by
      have : ∀ (l : List ApiChange) (a : ByteArray), a.size ≤ (l.foldl chT a).size := by
        intro l
        induction l with
        | nil => intro a; exact Nat.le_refl _
        | cons c l ih =>
          intro a
          have h2 : ∀ (l : List ByteArray) (a : ByteArray), a.size ≤ (l.foldl lnT a).size := by
            intro l
            induction l with
            | nil => intro a; exact Nat.le_refl _
            | cons x l ih =>
              intro a
              have := ih (lnT a x)
              have e : (lnT a x).size = a.size + tGt.size + x.size + tLF.size := by simp only [lnT, bsz]
              simp only [List.foldl_cons]; omega
          have h3 := h2 c.Lines (a ++ hdT c)
          rw [bsz] at h3
          have h4 := ih (chT a c)
          simp only [List.foldl_cons]
          unfold chT at h4 ⊢
          omega
      have h2 := this p.Changes (topT p)
      have h3 : (topT p).size = tPages.size + (itoaS p.Pages).size + tLF.size := by unfold topT; simp only [bsz]
      unfold textT; omega
    exact ⟨textT p, rfl, hne, by unfold textT; omega, h⟩

end Go.Proofs.YtggcmnoacplbkaaDoor
