/- PatchTexts, plainly: numerals, lines, what patch.Read takes a text for. -/
import Derived.Test.YtggcmnoacplbkaaDoorPtw
import Derived.Lib.AtoiAllMem
namespace Go.Proofs.YtggcmnoacplbkaaDoor
open Go Go.Proofs.YtggcmnoacplbkaaDoor.AM
set_option linter.unusedVariables false
set_option linter.unusedSimpArgs false

/-! ### numerals -/
theorem ofNat_dig {d : Nat} (h : d < 10) : (UInt8.ofNat (48 + d)).toNat = 48 + d := by
  rw [UInt8.toNat_ofNat']; omega
theorem decDigits_dig (u : Nat) : ∀ b ∈ Lib.decDigits u, 48 ≤ b.toNat ∧ b.toNat ≤ 57 := by
  induction u using Nat.strongRecOn with
  | _ u ih =>
    intro b hb
    rw [Lib.decDigits] at hb
    split at hb
    · rename_i h
      rw [List.mem_singleton] at hb; subst hb
      rw [ofNat_dig h]; omega
    · rcases List.mem_append.1 hb with hb | hb
      · exact ih (u / 10) (by omega) b hb
      · rw [List.mem_singleton] at hb; subst hb
        rw [ofNat_dig (by omega)]; omega
theorem decDigits_ne (u : Nat) : Lib.decDigits u ≠ [] := by
  rw [Lib.decDigits]; split <;> simp
theorem pu_digits (u : Nat) (hu : u ≤ 1000000000000) : ∀ r, Lib.parseUint10 0 (Lib.decDigits u ++ r) = Lib.parseUint10 u r := by
  induction u using Nat.strongRecOn with
  | _ u ih =>
    intro r
    rw [Lib.decDigits]
    split
    · rename_i h
      simp only [List.cons_append, List.nil_append, Lib.parseUint10, ofNat_dig h]
      rw [if_pos (by omega), if_neg (by omega), if_neg (by omega)]
      congr 1; omega
    · rw [List.append_assoc, ih (u / 10) (by omega) (by omega)]
      simp only [List.cons_append, List.nil_append, Lib.parseUint10, ofNat_dig (show u % 10 < 10 by omega)]
      rw [if_pos (by omega), if_neg (by omega), if_neg (by omega)]
      congr 1; omega
theorem atoiAll_dec (u : Nat) (hu : u ≤ 1000000000000) : Lib.atoiAll (Lib.decDigits u) = .ok (u : Int) := by
  have h1 := pu_digits u hu []
  rw [List.append_nil] at h1
  have hne := decDigits_ne u
  have hd := decDigits_dig u
  generalize Lib.decDigits u = l at *
  cases l with
  | nil => exact absurd rfl hne
  | cons c r =>
    have hc := hd c (by simp)
    have e1 : ¬ (c.toNat = 43 ∨ c.toNat = 45) := by omega
    have e2 : ¬ c.toNat = 45 := by omega
    have e3 : Lib.parseMag (c :: r) = .ok u := by
      unfold Lib.parseMag
      rw [if_neg (by simp), h1]; rfl
    have e4 : ¬ c.toNat = 43 := by omega
    simp only [Lib.atoiAll, e2, e4, or_self, if_false, not_false_eq_true, true_and, false_and]
    rw [e3]
    show (if 9223372036854775808 ≤ u then Lib.NumEnd.range else Lib.NumEnd.ok (u : Int)) = _
    rw [if_neg (by omega)]
theorem itoaS_list (u : Nat) : (itoaS (u : Int)).data.toList = Lib.decDigits u := by
  unfold itoaS Lib.itoa
  rw [if_neg (by omega), Int.toNat_natCast]
theorem itoaS_dig {n : Int} (h : 0 ≤ n) : ∀ b ∈ (itoaS n).data.toList, 48 ≤ b.toNat ∧ b.toNat ≤ 57 := by
  obtain ⟨u, rfl⟩ := Int.eq_ofNat_of_zero_le h
  have := itoaS_list u
  rw [this]; exact decDigits_dig u
theorem atoiS_itoaS {n : Int} (h : 0 ≤ n) (h' : n ≤ 1000000000000) : atoiS (itoaS n) = (n, false) := by
  obtain ⟨u, rfl⟩ := Int.eq_ofNat_of_zero_le h
  unfold atoiS
  rw [itoaS_list u, atoiAll_dec u (by omega)]
theorem itoaS_inj {m n : Int} (hm : 0 ≤ m) (hm' : m ≤ 1000000000000) (hn : 0 ≤ n) (hn' : n ≤ 1000000000000) (h : itoaS m = itoaS n) : m = n := by
  have a := atoiS_itoaS hm hm'
  rw [h, atoiS_itoaS hn hn'] at a
  exact (Prod.mk.inj a).1.symm

/-! ### texts as rows of bytes -/
abbrev lb (s : ByteArray) : List UInt8 := s.data.toList
theorem lb_inj {a b : ByteArray} (h : lb a = lb b) : a = b := ByteArray.ext (Array.toList_inj.1 h)
theorem lb_append (a b : ByteArray) : lb (a ++ b) = lb a ++ lb b := by simp [lb, ByteArray.data_append]
theorem lb_size (a : ByteArray) : (lb a).length = a.size := by simp [lb]
theorem lb_extract (s : ByteArray) (i j : Nat) : lb (s.extract i j) = ((lb s).take j).drop i := by
  simp [lb, ByteArray.data_extract, List.extract_eq_drop_take']
/-- the first place of a byte is told apart -/
theorem split_at {c : UInt8} : ∀ {a a' b b' : List UInt8}, a ++ c :: b = a' ++ c :: b' → c ∉ a → c ∉ a' → a = a' ∧ b = b'
  | [], [], b, b', h, _, _ => by simp at h; exact ⟨rfl, h⟩
  | [], x :: a', b, b', h, _, h2 => by
    simp at h
    exact absurd (by rw [← h.1]; simp) h2
  | x :: a, [], b, b', h, h1, _ => by
    simp at h
    exact absurd (by rw [h.1]; simp) h1
  | x :: a, y :: a', b, b', h, h1, h2 => by
    simp only [List.cons_append, List.cons.injEq] at h
    simp only [List.mem_cons, not_or] at h1 h2
    obtain ⟨e1, e2⟩ := split_at h.2 h1.2 h2.2
    exact ⟨by rw [h.1, e1], e2⟩
theorem index_cases (s : ByteArray) (c : UInt8) : (∃ o : Nat, indexB s c = o ∧ o < s.size ∧ lb s = (lb s).take o ++ c :: (lb s).drop (o + 1) ∧ c ∉ (lb s).take o) ∨ (indexB s c = -1 ∧ c ∉ lb s) := by
  unfold indexB
  have hge := Lib.indexByte_ge s.data.toList c
  by_cases e : Lib.indexByte s.data.toList c = -1
  · right
    refine ⟨e, fun hm => ?_⟩
    obtain ⟨k, hk, e2⟩ := List.getElem_of_mem hm
    exact Lib.indexByte_none e k (by rw [List.getElem?_eq_getElem hk, e2])
  · left
    obtain ⟨o, ho⟩ := Int.eq_ofNat_of_zero_le (show 0 ≤ Lib.indexByte s.data.toList c by omega)
    obtain ⟨h1, h2⟩ := Lib.indexByte_some ho
    have hlt := (List.getElem?_eq_some_iff.1 h1).1
    have hlt' : o < s.size := by rw [← lb_size]; exact hlt
    refine ⟨o, ho, hlt', ?_, fun hm => ?_⟩
    · have := List.take_append_drop o s.data.toList
      rw [List.drop_eq_getElem_cons hlt] at this
      have e3 : s.data.toList[o] = c := by
        have := List.getElem?_eq_getElem hlt; rw [h1] at this; exact (Option.some.inj this).symm
      rw [e3] at this
      exact this.symm
    · obtain ⟨k, hk, e2⟩ := List.getElem_of_mem hm
      rw [List.length_take] at hk
      refine h2 k (by omega) ?_
      rw [List.getElem_take] at e2
      rw [List.getElem?_eq_getElem (by omega), e2]

theorem Cut_w (s : ByteArray) (c : UInt8) (hs : s.size ≤ 1000000000000000) {Q : ByteArray × ByteArray × Bool → Prop} (h1 : ∀ a b, lb s = lb a ++ c :: lb b → c ∉ lb a → Q (a, b, true)) (h2 : c ∉ lb s → Q (s, ByteArray.mk #[], false)) :
    strings_Cut.w s (ByteArray.mk #[c]) Q := by
  unfold strings_Cut.w internal_stringslite_Cut.w internal_stringslite_Index.w
  refine ⟨c, rfl, ?_⟩
  have hz : (ByteArray.mk #[c]).size = 1 := rfl
  rcases index_cases s c with ⟨o, e, ho, h3, h4⟩ | ⟨e, h3⟩
  · rw [e]; dsimp only
    rw [if_pos (by omega), hz]
    refine ⟨by omega, by omega, i64_lt (by omega) (by omega), by omega, by omega, ?_⟩
    refine h1 _ _ ?_ ?_
    · rw [lb_extract, lb_extract]
      rw [show ((o : Int) + ((1 : Nat) : Int)).toNat = o + 1 by omega, show ((o : Int)).toNat = o by omega, List.drop_zero]
      rw [List.take_of_length_le (l := lb s) (i := s.size) (by rw [lb_size]; omega)]
      exact h3
    · rw [lb_extract, show ((o : Int)).toNat = o by omega, List.drop_zero]; exact h4
  · rw [e]; dsimp only
    rw [if_neg (by omega)]
    exact h2 h3
theorem CutPrefix_w (s p : ByteArray) {Q : ByteArray × Bool → Prop} (h1 : ∀ a, lb s = lb p ++ lb a → Q (a, true)) (h2 : (¬ ∃ a, lb s = lb p ++ a) → Q (s, false)) : strings_CutPrefix.w s p Q := by
  unfold strings_CutPrefix.w internal_stringslite_CutPrefix.w internal_stringslite_HasPrefix.w
  refine ite_intro (fun h => ⟨by omega, ite_intro (fun k => ?_) fun k => ⟨by omega, ?_⟩⟩) fun h => ?_
  · refine h2 fun ⟨a, ha⟩ => ?_
    simp only [Bool.not_eq_true', decide_eq_false_iff_not] at k
    refine k (lb_inj ?_)
    rw [lb_extract, List.drop_zero, ha, List.take_append_of_le_length (by rw [lb_size]; omega), List.take_of_length_le (by rw [lb_size]; omega)]
  · simp only [Bool.not_eq_true', decide_eq_false_iff_not, Decidable.not_not] at k
    refine h1 _ ?_
    have := congrArg lb k
    rw [lb_extract, List.drop_zero] at this
    rw [lb_extract, ← this, List.take_of_length_le (l := lb s) (i := s.size) (by rw [lb_size]; omega), List.take_append_drop]
  · try dsimp only
    rw [if_pos (by simp)]
    refine h2 fun ⟨a, ha⟩ => ?_
    have := congrArg List.length ha
    rw [List.length_append, lb_size, lb_size] at this
    omega
end Go.Proofs.YtggcmnoacplbkaaDoor
