/- chars and the reference's chars, plainly: classes of bytes, small letters and capitals. -/
import Derived.Test.YtnenodamppageaaWA8
namespace Go.Proofs.Ytnenodamppageaa
open Go Go.Proofs.Ytnenodamppageaa.AM
set_option linter.unusedVariables false
set_option linter.unusedSimpArgs false

/-- a loop whose state is told by how often it went round -/
theorem wfor {σ : Type} {body : σ → (σ → Prop) → Prop} {s0 : σ} (idx : σ → Int) (g : Nat → σ) (N : Nat) (P : Nat → Prop) (hi : ∀ n, n ≤ N → idx (g n) = n) (hg : s0 = g 0) (h0 : P 0) (hs : ∀ n, n < N → P n → ∀ K : σ → Prop, (P (n + 1) → K (g (n + 1))) → body (g n) K) (he : P N → ∀ K, body (g N) K) : wloop body s0 := by
  refine ⟨fun s => ∃ n, n ≤ N ∧ s = g n ∧ P n, fun s => (N - idx s).toNat, ⟨0, Nat.zero_le _, hg, h0⟩, ?_⟩
  rintro s ⟨n, hn, rfl, hp⟩
  rcases Nat.lt_or_eq_of_le hn with h | rfl
  · refine hs n h hp _ fun hp' => ⟨⟨n + 1, h, rfl, hp'⟩, ?_⟩
    show ((N : Int) - idx (g (n + 1))).toNat < ((N : Int) - idx (g n)).toNat
    rw [hi _ h, hi _ hn]; omega
  · exact he hp _

def big : Nat := 4611686018427387904
theorem i64_lt {x : Int} (h0 : -4611686018427387904 ≤ x) (h1 : x ≤ 4611686018427387905) : I64 x := ⟨by omega, by omega⟩
theorem get_some {α : Type} (l : List α) {n : Nat} (h : n < l.length) : l[(n : Int).toNat]? = some l[n] := by simp [h]
theorem size_list (s : ByteArray) : s.data.toList.length = s.size := rfl
theorem bget (s : ByteArray) {n : Nat} (h : n < s.size) : s[(n : Int).toNat]? = some (s.data.toList[n]'h) := by
  rw [Int.toNat_natCast]
  rw [getElem?_pos s n h]
  rfl

/-- the class of a byte -/
def cls (c : Int) : Int := if 97 ≤ c ∧ c ≤ 122 then 1 else if 65 ≤ c ∧ c ≤ 90 then 2 else if 48 ≤ c ∧ c ≤ 57 then 3 else if c = 32 then 5 else if c = 10 then 6 else
  if c ∈ ([46, 44, 59, 58, 33, 63, 39, 34, 45, 40, 41, 47] : List Int) then 4 else 0
def isL (c : Int) : Bool := decide (97 ≤ c ∧ c ≤ 122) || decide (65 ≤ c ∧ c ≤ 90)
def low (c : Int) : Int := if 65 ≤ c ∧ c ≤ 90 then c + 32 else c
def upp (c : Int) : Int := if 97 ≤ c ∧ c ≤ 122 then c - 32 else c
abbrev Byte (c : Int) : Prop := 0 ≤ c ∧ c ≤ 255
theorem byte_all {p : Int → Prop} (h : ∀ n : Fin 256, p (n.val : Int)) {c : Int} (hc : Byte c) : p c := by
  have := h ⟨c.toNat, by omega⟩
  simpa [Int.toNat_of_nonneg hc.1] using this
theorem ubyte (c : UInt8) : Byte (c.toNat : Int) := ⟨by omega, by have := c.toNat_lt; omega⟩

/-- a byte, put into the bits of a class -/
def bitAt (c : Int) : Nat := (ishr .u8 c 6).toNat
def put1 (b : List Int) (c : Int) : List Int := b.set (bitAt c) (ior .u64 (b.getD (bitAt c) 0) (ishl .u64 1 (iand .u8 c 63)))
theorem bit_ok {c : Int} (hc : Byte c) : (0 ≤ ishr .u8 c 6 ∧ bitAt c < 4) ∧ 0 ≤ iand .u8 c 63 :=
  byte_all (p := fun c => (0 ≤ ishr .u8 c 6 ∧ bitAt c < 4) ∧ 0 ≤ iand .u8 c 63) (by decide +kernel) hc
theorem getD_some {l : List Int} {n : Nat} (h : n < l.length) : l[n]? = some (l.getD n 0) := by simp [List.getD, h]

theorem of_w (s : ByteArray) (hs : s.size ≤ big) {Q : List Int → Prop} (h : Q ((strInts s).foldl put1 [0, 0, 0, 0])) : chars_of.w s Q := by
  unfold big at hs
  unfold chars_of.w
  have hlen : ∀ (l : List Int) (b : List Int), b.length = 4 → (l.foldl put1 b).length = 4 := by
    intro l
    induction l with
    | nil => intro b hb; exact hb
    | cons c l ih => intro b hb; exact ih _ (by simp [put1, hb])
  refine wfor (fun s => s.2) (fun n => (((strInts s).take n).foldl put1 [0, 0, 0, 0], (n : Int))) s.size (fun _ => True) (fun _ _ => rfl) rfl trivial ?_ ?_
  · intro n hn _ K hK
    dsimp only
    rw [if_pos (by omega)]
    have hv := ubyte (s.data.toList[n]'hn)
    obtain ⟨⟨b1, b2⟩, b3⟩ := bit_ok hv
    have h4 := hlen ((strInts s).take n) [0, 0, 0, 0] rfl
    refine ⟨by omega, _, bget s hn, b1, b2, _, getD_some (by rw [h4]; exact b2), b3, b2, by rw [h4]; exact b2, i64_lt (by omega) (by omega), ?_⟩
    have := hK trivial
    have e : (strInts s).take (n + 1) = (strInts s).take n ++ [((s.data.toList[n]'hn).toNat : Int)] := by
      rw [List.take_add_one]
      congr 1
      simp [strInts, hn, size_list]
    rw [e, List.foldl_append] at this
    simpa [put1, bitAt] using this
  · intro _ K
    dsimp only
    rw [if_neg (by omega)]
    have h4 := hlen ((strInts s).take s.size) [0, 0, 0, 0] rfl
    have e : (strInts s).take s.size = strInts s := List.take_of_length_le (by rw [strInts_length]; exact Nat.le_refl _)
    rw [e] at h4 ⊢
    exact ⟨h4, h4, rfl, h4, h⟩

def hasF (b : List Int) (c : Int) : Bool := decide (iand .u64 (ishr .u64 (b.getD (bitAt c) 0) (iand .u8 c 63)) 1 = 1)
theorem has_w (b : List Int) (hb : b.length = 4) {c : Int} (hc : Byte c) {Q : Bool → Prop} (h : Q (hasF b c)) : chars_bits_has.w b c Q := by
  obtain ⟨⟨b1, b2⟩, b3⟩ := bit_ok hc
  exact ⟨hb, b1, b2, _, getD_some (by rw [hb]; exact b2), b3, h⟩

def setOf (s : ByteArray) : List Int := (strInts s).foldl put1 [0, 0, 0, 0]
def classList : List (List Int) := [[0, 0, 0, 0],
  setOf ⟨#[97, 98, 99, 100, 101, 102, 103, 104, 105, 106, 107, 108, 109, 110, 111, 112, 113, 114, 115, 116, 117, 118, 119, 120, 121, 122]⟩,
  setOf ⟨#[65, 66, 67, 68, 69, 70, 71, 72, 73, 74, 75, 76, 77, 78, 79, 80, 81, 82, 83, 84, 85, 86, 87, 88, 89, 90]⟩,
  setOf ⟨#[48, 49, 50, 51, 52, 53, 54, 55, 56, 57]⟩, setOf ⟨#[46, 44, 59, 58, 33, 63, 39, 34, 45, 40, 41, 47]⟩, setOf ⟨#[32]⟩, setOf ⟨#[10]⟩]
theorem classList_len : classList.length = 7 ∧ ∀ v ∈ classList, v.length = 4 := by decide +kernel
theorem classes_w {Q : List (List Int) → Prop} (h : Q classList) : chars_classes.w Q := by
  unfold chars_classes.w chars_Marks.w
  refine of_w _ (by decide +kernel) (of_w _ (by decide +kernel) (of_w _ (by decide +kernel) (of_w _ (by decide +kernel) (of_w _ (by decide +kernel) (of_w _ (by decide +kernel) ?_)))))
  have hl := classList_len
  refine ⟨hl.2 _ (by simp [classList, setOf]), hl.2 _ (by simp [classList, setOf]), hl.2 _ (by simp [classList, setOf]), hl.2 _ (by simp [classList, setOf]), hl.2 _ (by simp [classList, setOf]), hl.2 _ (by simp [classList, setOf]), hl, by decide, hl, h⟩
theorem class_has : ∀ c : Fin 256, ∀ m : Fin 7, hasF (classList.getD m.val []) (c.val : Int) = decide (cls (c.val : Int) = (m.val : Int) ∧ m.val ≠ 0) := by decide +kernel
theorem cls_range : ∀ c : Fin 256, 0 ≤ cls (c.val : Int) ∧ cls (c.val : Int) < 7 := by decide +kernel

theorem Class_w {c : Int} (hc : Byte c) {Q : Int → Prop} (h : Q (cls c)) : chars_Class.w c Q := by
  unfold chars_Class.w
  refine classes_w ?_
  have hl := classList_len
  have hh : ∀ m : Fin 7, hasF (classList.getD m.val []) c = decide (cls c = (m.val : Int) ∧ m.val ≠ 0) :=
    byte_all (p := fun c => ∀ m : Fin 7, hasF (classList.getD m.val []) c = decide (cls c = (m.val : Int) ∧ m.val ≠ 0)) class_has hc
  have hr := byte_all (p := fun c => 0 ≤ cls c ∧ cls c < 7) cls_range hc
  refine wfor (fun i => i) (fun n => (n : Int)) 7 (fun n => ∀ m, m < n → ¬ (cls c = (m : Int) ∧ m ≠ 0)) (fun _ _ => rfl) rfl (by simp) ?_ ?_
  · intro n hn hp K hK
    try dsimp only
    rw [if_pos (by omega)]
    have hv : classList[((n : Int)).toNat]? = some (classList.getD n []) := by
      rw [Int.toNat_natCast]; simp [List.getD, hl.1, hn]
    have h4 : (classList.getD n []).length = 4 := hl.2 _ (by simp only [List.getD, List.getElem?_eq_getElem (show n < classList.length by rw [hl.1]; exact hn), Option.getD_some]; exact List.getElem_mem _)
    refine ⟨by omega, by omega, hl, _, hv, h4, rfl, h4, has_w _ h4 hc ?_⟩
    rw [hh ⟨n, hn⟩]
    by_cases e : cls c = (n : Int) ∧ n ≠ 0
    · rw [if_pos (by simpa using e)]
      rw [← e.1]; exact h
    · rw [if_neg (by simpa using e)]
      refine ⟨i64_lt (by omega) (by omega), ?_⟩
      have := hK (fun m hm => by
        rcases Nat.lt_succ_iff_lt_or_eq.1 hm with h1 | rfl
        · exact hp m h1
        · exact e)
      simpa using this
  · intro hp K
    try dsimp only
    rw [if_neg (by omega)]
    have : cls c = 0 := by
      by_cases e : cls c = 0
      · exact e
      · exact absurd ⟨by rw [Int.toNat_of_nonneg hr.1], by omega⟩ (hp (cls c).toNat (by omega))
    rw [← this]; exact h

def ClsFacts (c : Int) : Prop := (cls c = 1 ↔ (97 ≤ c ∧ c ≤ 122)) ∧ (cls c = 2 ↔ (65 ≤ c ∧ c ≤ 90)) ∧ ((65 ≤ c ∧ c ≤ 90) → ior .u8 c 32 = c + 32) ∧ ((97 ≤ c ∧ c ≤ 122) → iandn .u8 c 32 = c - 32) ∧
  ((65 ≤ c ∧ c ≤ 90) → IntKind.u8.wrap ((IntKind.u8.wrap (c - 65)) + 97) = c + 32)
theorem cls_facts0 : ∀ c : Fin 256, ClsFacts (c.val : Int) := by unfold ClsFacts; decide +kernel
theorem cls_facts {c : Int} (hc : Byte c) : ClsFacts c := byte_all cls_facts0 hc
theorem cls1 {c : Int} (hc : Byte c) : cls c = 1 ↔ 97 ≤ c ∧ c ≤ 122 := (cls_facts hc).1
theorem cls2 {c : Int} (hc : Byte c) : cls c = 2 ↔ 65 ≤ c ∧ c ≤ 90 := (cls_facts hc).2.1

theorem Letter_w {c : Int} (hc : Byte c) {Q : Bool → Prop} (h : Q (isL c)) : chars_Letter.w c Q := by
  unfold chars_Letter.w
  refine Class_w hc ?_
  unfold isL at h
  split
  · rename_i e
    rw [cls1 hc] at e
    simpa [e] using h
  · rename_i e
    rw [cls1 hc] at e
    have : decide (cls c = 2) = (decide (97 ≤ c ∧ c ≤ 122) || decide (65 ≤ c ∧ c ≤ 90)) := by
      rw [decide_eq_false e, Bool.false_or]
      exact decide_eq_decide.2 (cls2 hc)
    rw [this]; exact h
theorem Lower_w {c : Int} (hc : Byte c) {Q : Int → Prop} (h : Q (low c)) : chars_Lower.w c Q := by
  unfold chars_Lower.w
  refine Class_w hc ?_
  unfold low at h
  split
  · rename_i e
    rw [cls2 hc] at e
    rw [if_pos e] at h
    rw [(cls_facts hc).2.2.1 e]; exact h
  · rename_i e
    rw [cls2 hc] at e
    rw [if_neg e] at h; exact h
theorem Upper_w {c : Int} (hc : Byte c) {Q : Int → Prop} (h : Q (upp c)) : chars_Upper.w c Q := by
  unfold chars_Upper.w
  refine Class_w hc ?_
  unfold upp at h
  split
  · rename_i e
    rw [cls1 hc] at e
    rw [if_pos e] at h
    rw [(cls_facts hc).2.2.2.1 e]; exact h
  · rename_i e
    rw [cls1 hc] at e
    rw [if_neg e] at h; exact h

theorem rClass_w {c : Int} (hc : Byte c) {Q : Int → Prop} (h : Q (cls c)) : stylusref01_Class.w c Q := by
  unfold stylusref01_Class.w stylusref01_Marks.w
  unfold wcut
  dsimp only
  unfold cls at h
  have tail : (¬ (97 ≤ c ∧ c ≤ 122)) → (¬ (65 ≤ c ∧ c ≤ 90)) → ¬ (48 ≤ c ∧ c ≤ 57) → (if c = 32 then Q 5 else if c = 10 then Q 6 else
      wloop (σ := Int) (fun a1 next1 =>
                if a1 < ((ByteArray.mk #[46, 44, 59, 58, 33, 63, 39, 34, 45, 40, 41, 47]).size : Int) then
                  (0 ≤ a1) ∧
                  ∃ v1 : UInt8, (ByteArray.mk #[46, 44, 59, 58, 33, 63, 39, 34, 45, 40, 41, 47])[a1.toNat]? = some v1 ∧
                  if (v1.toNat : Int) = c then
                    Q 4
                  else
                    (I64 (a1 + 1)) ∧
                    next1 (a1 + 1)
                else
                  Q 0) 0) := by
    intro n1 n2 n3
    rw [if_neg n1, if_neg n2, if_neg n3] at h
    split
    · rename_i e; rw [if_pos e] at h; exact h
    rename_i e1
    rw [if_neg e1] at h
    split
    · rename_i e; rw [if_pos e] at h; exact h
    rename_i e2
    rw [if_neg e2] at h
    have hsz : (ByteArray.mk #[46, 44, 59, 58, 33, 63, 39, 34, 45, 40, 41, 47]).size = 12 := rfl
    generalize hM : ByteArray.mk #[46, 44, 59, 58, 33, 63, 39, 34, 45, 40, 41, 47] = M at hsz ⊢
    have hin : (strInts M) = ([46, 44, 59, 58, 33, 63, 39, 34, 45, 40, 41, 47] : List Int) := by rw [← hM]; rfl
    rw [← hin] at h
    refine wfor (fun i => i) (fun n => (n : Int)) 12 (fun n => c ∉ (strInts M).take n) (fun _ _ => rfl) rfl (by simp) ?_ ?_
    · intro n hn hp K hK
      try dsimp only
      rw [if_pos (by omega)]
      have hn' : n < M.size := by omega
      refine ⟨by omega, _, bget M hn', ?_⟩
      have e : (strInts M).take (n + 1) = (strInts M).take n ++ [((M.data.toList[n]'hn').toNat : Int)] := by
        rw [List.take_add_one]
        congr 1
        simp [strInts, size_list, hn']
      split
      · rename_i e3
        rw [if_pos] at h
        · exact h
        · have : c ∈ (strInts M).take (n + 1) := by rw [e, e3]; simp
          exact List.mem_of_mem_take this
      · rename_i e3
        refine ⟨i64_lt (by omega) (by omega), ?_⟩
        have := hK (by rw [e, List.mem_append]; rintro (h1 | h1); exact hp h1; simp at h1; exact e3 h1.symm)
        simpa using this
    · intro hp K
      try dsimp only
      rw [if_neg (by omega)]
      have e : (strInts M).take 12 = strInts M := List.take_of_length_le (by rw [strInts_length, hsz]; exact Nat.le_refl _)
      rw [e] at hp
      rw [if_neg hp] at h; exact h
  by_cases n1 : 97 ≤ c ∧ c ≤ 122
  · rw [if_pos n1] at h
    rw [if_pos n1.1, if_pos n1.2]; exact h
  by_cases n2 : 65 ≤ c ∧ c ≤ 90
  · rw [if_neg n1, if_pos n2] at h
    rw [if_neg (by omega), if_pos n2.1, if_pos n2.2]; exact h
  have t := tail n1 n2
  by_cases n3 : 48 ≤ c ∧ c ≤ 57
  · rw [if_neg n1, if_neg n2, if_pos n3] at h
    rw [if_neg (by omega), if_neg (by omega), if_pos n3.1, if_pos n3.2]; exact h
  have t := t n3
  have key : ∀ (A B : Prop) (p q : Prop) [Decidable p] [Decidable q], ¬ (p ∧ q) → B → (if p then (if q then A else B) else B) := by
    intro A B p q _ _ hpq hB
    split
    · rename_i hp
      rw [if_neg (fun hq => hpq ⟨hp, hq⟩)]; exact hB
    · exact hB
  exact key _ _ _ _ n1 (key _ _ _ _ n2 (key _ _ _ _ n3 t))
theorem rLetter_w {c : Int} (hc : Byte c) {Q : Bool → Prop} (h : Q (isL c)) : stylusref01_Letter.w c Q := by
  unfold stylusref01_Letter.w
  refine rClass_w hc ?_
  unfold isL at h
  split
  · rename_i e
    rw [cls1 hc] at e
    simpa [e] using h
  · rename_i e
    refine rClass_w hc ?_
    rw [cls1 hc] at e
    have : decide (cls c = 2) = (decide (97 ≤ c ∧ c ≤ 122) || decide (65 ≤ c ∧ c ≤ 90)) := by
      rw [decide_eq_false e, Bool.false_or]
      exact decide_eq_decide.2 (cls2 hc)
    rw [this]; exact h
theorem rLower_w {c : Int} (hc : Byte c) {Q : Int → Prop} (h : Q (low c)) : stylusref01_Lower.w c Q := by
  unfold stylusref01_Lower.w
  refine rClass_w hc ?_
  unfold low at h
  split
  · rename_i e
    rw [cls2 hc] at e
    rw [if_pos e] at h
    rw [(cls_facts hc).2.2.2.2 e]; exact h
  · rename_i e
    rw [cls2 hc] at e
    rw [if_neg e] at h; exact h

/-! ### texts -/
theorem low_byte {c : Int} (hc : Byte c) : Byte (low c) := by unfold low; split <;> constructor <;> omega
theorem upp_byte {c : Int} (hc : Byte c) : Byte (upp c) := by unfold upp; split <;> constructor <;> omega
theorem strInts_byte {s : ByteArray} {c : Int} (h : c ∈ strInts s) : Byte c := by
  obtain ⟨b, _, rfl⟩ := List.mem_map.1 h
  exact ubyte b
def lowS (s : ByteArray) : ByteArray := ofBytes ((strInts s).map low)
def uppS (s : ByteArray) : ByteArray := ofBytes ((strInts s).map upp)
theorem ofBytes_size (l : List Int) : (ofBytes l).size = l.length := by simp [ofBytes, ByteArray.size]
theorem ofBytes_append (a b : List Int) : ofBytes (a ++ b) = ofBytes a ++ ofBytes b := by
  simp [ofBytes, ByteArray.append_eq, ByteArray.ext_iff]
theorem strInts_ofBytes {l : List Int} (h : ∀ c ∈ l, Byte c) : strInts (ofBytes l) = l := by
  unfold strInts ofBytes
  simp only [List.toList_toArray, List.map_map]
  conv => rhs; rw [← List.map_id l]
  refine List.map_congr_left fun c hc => ?_
  obtain ⟨h1, h2⟩ := h c hc
  simp only [Function.comp, id]
  rw [UInt8.toNat_ofNat_of_lt' (by show c.toNat < 256; omega)]
  omega
theorem ofBytes_strInts (s : ByteArray) : ofBytes (strInts s) = s := by
  refine strInts_inj ?_
  rw [strInts_ofBytes fun c hc => strInts_byte hc]
theorem Low_w (s : ByteArray) (hs : s.size ≤ big) {Q : ByteArray → Prop} (h : Q (lowS s)) : chars_Low.w s Q := by
  unfold big at hs
  unfold chars_Low.w
  have hl := strInts_length s
  refine wfor (fun s => s.2) (fun n => (((strInts s).take n).map low ++ (strInts s).drop n, (n : Int))) s.size (fun _ => True) (fun _ _ => rfl) (by simp) trivial ?_ ?_
  · intro n hn _ K hK
    dsimp only
    rw [if_pos (by omega)]
    have hn' : n < (strInts s).length := by omega
    have hv : (((strInts s).take n).map low ++ (strInts s).drop n)[((n : Int)).toNat]? = some (strInts s)[n] := by
      rw [Int.toNat_natCast, List.getElem?_append, if_neg (by simp; omega)]
      simp [Nat.min_eq_left (Nat.le_of_lt hn'), hn']
    refine ⟨by omega, _, hv, Lower_w (strInts_byte (List.getElem_mem hn')) ⟨i64_lt (by omega) (by omega), ?_⟩⟩
    have := hK trivial
    have e : (((strInts s).take n).map low ++ (strInts s).drop n).set ((n : Int)).toNat (low (strInts s)[n]) = ((strInts s).take (n + 1)).map low ++ (strInts s).drop (n + 1) := by
      rw [Int.toNat_natCast, List.set_append, if_neg (by simp; omega)]
      simp only [List.length_map, List.length_take, Nat.min_eq_left (Nat.le_of_lt hn'), Nat.sub_self]
      rw [List.drop_eq_getElem_cons hn', List.set_cons_zero, List.take_add_one, List.getElem?_eq_getElem hn']
      simp only [Option.toList_some, List.map_append, List.map_cons, List.map_nil, List.append_assoc, List.cons_append, List.nil_append]
    rw [e]; simpa using this
  · intro _ K
    dsimp only
    rw [if_neg (by omega)]
    have e1 : (strInts s).take s.size = strInts s := List.take_of_length_le (by omega)
    have e2 : (strInts s).drop s.size = [] := List.drop_of_length_le (by omega)
    rw [e1, e2, List.append_nil]; exact h
theorem rLow_w (s : ByteArray) (hs : s.size ≤ 1000000) {Q : ByteArray → Prop} (h : Q (lowS s)) : stylusref01_Low.w s Q := by
  unfold stylusref01_Low.w
  have hl := strInts_length s
  refine wfor (fun s => s.2) (fun n => (((strInts s).take n).map low, (n : Int))) s.size (fun _ => True) (fun _ _ => rfl) (by simp) trivial ?_ ?_
  · intro n hn _ K hK
    dsimp only
    rw [if_pos (by omega)]
    refine ⟨by omega, _, bget s hn, rLower_w (ubyte _) ⟨by simp; omega, i64_lt (by omega) (by omega), ?_⟩⟩
    have := hK trivial
    have e : ((strInts s).take (n + 1)).map low = ((strInts s).take n).map low ++ [low ((s.data.toList[n]'hn).toNat : Int)] := by
      rw [List.take_add_one, List.map_append]
      congr 1
      simp [strInts, size_list, hn]
    rw [e] at this; simpa using this
  · intro _ K
    dsimp only
    rw [if_neg (by omega)]
    have e1 : (strInts s).take s.size = strInts s := List.take_of_length_le (by omega)
    rw [e1]; exact h
theorem upper_w (s : ByteArray) (hs : s.size ≤ 1000000) {Q : ByteArray → Prop} (h : Q (uppS s)) : styluslaw33_upper.w s Q := by
  unfold styluslaw33_upper.w
  have hl := strInts_length s
  refine wfor (fun s => s.2) (fun n => (ofBytes (((strInts s).take n).map upp), (n : Int))) s.size (fun _ => True) (fun _ _ => rfl) (by simp [ofBytes]) trivial ?_ ?_
  · intro n hn _ K hK
    dsimp only
    rw [if_pos (by omega)]
    refine ⟨by omega, _, bget s hn, Upper_w (ubyte _) ⟨by rw [ofBytes_size, ofBytes_size]; simp; omega, i64_lt (by omega) (by omega), ?_⟩⟩
    have := hK trivial
    have e : ofBytes (((strInts s).take (n + 1)).map upp) = ofBytes (((strInts s).take n).map upp) ++ ofBytes [upp ((s.data.toList[n]'hn).toNat : Int)] := by
      rw [← ofBytes_append, List.take_add_one, List.map_append]
      congr 2
      simp [strInts, size_list, hn]
    rw [e] at this; simpa using this
  · intro _ K
    dsimp only
    rw [if_neg (by omega)]
    have e1 : (strInts s).take s.size = strInts s := List.take_of_length_le (by omega)
    rw [e1]; exact h
end Go.Proofs.Ytnenodamppageaa
