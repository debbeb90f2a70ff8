/- The patch's laws, plainly: PatchBack. -/
import Derived.Test.YtlnjajfagildnaaDoorPuc
import Derived.Test.YtlnjajfagildnaaDoorWA5
namespace Go.Proofs.YtlnjajfagildnaaDoor
open Go Go.Proofs.YtlnjajfagildnaaDoor.AM
set_option linter.unusedVariables false
set_option linter.unusedSimpArgs false

theorem awake_w {Q : Bool → Prop} (h : Q true) : styluslaw35_awake.w Q := by
  unfold styluslaw35_awake.w
  refine Of_w exW exN (by decide) (by decide) (by decide) ?_
  rw [ofP_ex]
  refine Write_c ?_
  have d := Do_w exW exN (by decide) (by decide) (by decide) (Q := fun r3 => stylusref35_Same.w pc pc (fun r4 =>
          if r4 = true then
            if tx4 = tx4 then
              if (0 : Int) = 0 then
                if r3.2 = 0 then
                  stylusref35_Pages.w r3.1 exN (fun r5 =>
                    if r5 = true then
                      patch_Of.w ([([(ByteArray.mk #[97])] : List ByteArray), ([(ByteArray.mk #[98])] : List ByteArray)] : List (List ByteArray)) ([([(ByteArray.mk #[97])] : List ByteArray)] : List (List ByteArray)) (fun r6 =>
                        stylusref35_Same.w r6 (⟨1, ([] : List ApiChange)⟩ : ApiPatch) (fun r7 =>
                          if r7 = true then
                            patch_Of.w ([] : List (List ByteArray)) ([] : List (List ByteArray)) (fun r8 =>
                              stylusref35_Same.w r8 (⟨0, ([] : List ApiChange)⟩ : ApiPatch) (fun r9 =>
                                Q r9))
                          else
                            Q false))
                    else
                      Q false)
                else
                  Q false
              else
                Q false
            else
              Q false
          else
            Q false))
  rw [ofP_ex] at d
  refine d ?_
  refine Same_w _ _ (by decide) (by decide) ?_
  rw [decide_eq_true rfl, if_pos rfl, if_pos rfl, if_pos rfl, if_pos rfl]
  refine Pages_w _ _ (by decide) (by decide) ?_
  rw [decide_eq_true rfl, if_pos rfl]
  refine Of_w _ _ (by decide) (by decide) (by decide) ?_
  refine Same_w _ _ (by decide) (by decide) ?_
  rw [decide_eq_true (by decide), if_pos rfl]
  refine Of_w _ _ (by decide) (by decide) (by decide) ?_
  refine Same_w _ _ (by decide) (by decide) ?_
  rw [decide_eq_true (by decide)]
  exact h

theorem wide_w (l : List ByteArray) (hb : l.length ≤ big) {Q : Bool → Prop} (h : ∀ r, (r = false → l.length ≤ 60) → Q r) : styluslaw35_wide.w l Q := by
  unfold big at hb
  unfold styluslaw35_wide.w
  refine wfor (fun i => i) (fun n => (n : Int)) l.length (fun _ => True) (fun _ _ => rfl) rfl trivial ?_ ?_
  · intro n hn _ K hK
    replace hK := hK trivial
    try dsimp only
    rw [if_pos (by omega)]
    refine ⟨by omega, l[n], get_some l hn, ?_⟩
    split
    · exact h true (fun e => by cases e)
    · exact ⟨i64_lt (by omega) (by omega), by simpa using hK⟩
  · intro _ K
    try dsimp only
    rw [if_neg (by omega)]
    exact h _ (fun e => by simp at e; omega)

theorem long_w (l : List (List ByteArray)) (hb : l.length ≤ big) (hb2 : ∀ v ∈ l, v.length ≤ big) {Q : Bool → Prop} (h : ∀ r, (r = false → l.length ≤ 60 ∧ ∀ v ∈ l, v.length ≤ 60) → Q r) : styluslaw35_long.w l Q := by
  unfold big at hb
  unfold styluslaw35_long.w
  refine wfor (fun i => i) (fun n => (n : Int)) l.length (fun n => ∀ v ∈ l.take n, v.length ≤ 60) (fun _ _ => rfl) rfl (by simp) ?_ ?_
  · intro n hn hp K hK
    try dsimp only
    rw [if_pos (by omega)]
    refine ⟨by omega, l[n], get_some l hn, wide_w _ (hb2 _ (List.getElem_mem hn)) ?_⟩
    intro r hr
    split
    · exact h true (fun e => by cases e)
    · rename_i hrf
      have hrf' : r = false := by simpa using hrf
      refine ⟨i64_lt (by omega) (by omega), ?_⟩
      have := hK (by
        rw [List.take_add_one, List.getElem?_eq_getElem hn]
        intro v hv
        rcases List.mem_append.1 hv with hv | hv
        · exact hp v hv
        · simp at hv; subst hv; exact hr hrf')
      simpa using this
  · intro hp K
    try dsimp only
    rw [if_neg (by omega)]
    refine h _ (fun e => ?_)
    rw [List.take_length] at hp
    exact ⟨by simp at e; omega, hp⟩

theorem chgs_get (was now : List (List ByteArray)) (N : Nat) {k : Nat} {c : ApiChange} (h : (chgs was now N)[k]? = some c) : ∃ i, i < N ∧ c.Page = (i : Int) + 1 ∧ c.Lines = now.getD i [] ∧ was[i]? ≠ now[i]? := by
  have hm := List.mem_of_getElem? h
  unfold chgs at hm
  obtain ⟨i, hi, he⟩ := List.mem_filterMap.1 hm
  have hi' := List.mem_range.1 hi
  unfold chg at he
  split at he
  · cases he
  · rename_i hne
    cases he
    exact ⟨i, hi', rfl, rfl, hne⟩
theorem chgs_rise (was now : List (List ByteArray)) (N : Nat) : (chgs was now N).Pairwise (fun a b => a.Page < b.Page) := by
  unfold chgs
  refine List.Pairwise.filterMap (R := fun a b => a < b) _ ?_ List.pairwise_lt_range
  intro a a' hlt b hb b' hb'
  have hb : chg was now a = some b := hb
  have hb' : chg was now a' = some b' := hb'
  unfold chg at hb hb'
  split at hb <;> cases hb
  split at hb' <;> cases hb'
  show (a : Int) + 1 < (a' : Int) + 1
  omega
theorem chgs_same (was : List (List ByteArray)) (N : Nat) : chgs was was N = [] := by
  unfold chgs
  rw [List.filterMap_eq_nil_iff]
  intro i _
  unfold chg
  rw [if_pos rfl]

theorem iteI {c : Prop} [Decidable c] {a b : Prop} (h1 : c → a) (h2 : ¬ c → b) : if c then a else b := by split; exact h1 ‹_›; exact h2 ‹_›

theorem PatchBack_w (was now then_ : List (List ByteArray)) (h0 : was.length ≤ big) (h1 : now.length ≤ big) (h2 : then_.length ≤ big) (k0 : ∀ v ∈ was, v.length ≤ big) (k1 : ∀ v ∈ now, v.length ≤ big) (k2 : ∀ v ∈ then_, v.length ≤ big)
    {Q : Bool → Prop} (h : Q true) : styluslaw35_PatchBack.w was now then_ Q := by
  unfold styluslaw35_PatchBack.w
  refine long_w _ h0 k0 fun r hr => ?_
  refine iteI (fun _ => awake_w h) fun e0 => ?_
  obtain ⟨a0, b0⟩ := hr (by simpa using e0)
  refine long_w _ h1 k1 fun r hr => ?_
  refine iteI (fun _ => awake_w h) fun e1 => ?_
  obtain ⟨a1, b1⟩ := hr (by simpa using e1)
  refine long_w _ h2 k2 fun r hr => ?_
  refine iteI (fun _ => awake_w h) fun e2 => ?_
  obtain ⟨a2, b2⟩ := hr (by simpa using e2)
  clear e0 e1 e2 hr
  have w0 : ∀ l ∈ was, l.length ≤ 1000000 := fun l hl => by have := b0 l hl; omega
  have w1 : ∀ l ∈ now, l.length ≤ 1000000 := fun l hl => by have := b1 l hl; omega
  have w2 : ∀ l ∈ then_, l.length ≤ 1000000 := fun l hl => by have := b2 l hl; omega
  refine Of_w was now (by omega) w1 w0 ?_
  refine Of_w now then_ (by omega) w2 w1 ?_
  refine Do_w was now (by omega) (by omega) w1 ?_
  refine Do_w now then_ (by omega) (by omega) w2 ?_
  refine Of_w was was (by omega) w0 w0 ?_
  refine iteI (fun _ => ?_) (fun e => absurd rfl e)
  refine iteI (fun _ => ?_) (fun e => absurd rfl e)
  refine Pages_w _ _ h1 k1 ?_
  refine iteI (fun e => absurd e (by simp)) (fun _ => ?_)
  refine Pages_w _ _ h2 k2 ?_
  refine iteI (fun e => absurd e (by simp)) (fun _ => ?_)
  have s1 : ((ofP was was).Changes.length : Int) = 0 := by show ((chgs was was was.length).length : Int) = 0; rw [chgs_same]; rfl
  refine iteI (fun _ => ?_) (fun e => absurd s1 e)
  refine iteI (fun _ => ?_) (fun e => absurd rfl e)
  have hN := chgs_length was now now.length
  have rise := chgs_rise was now now.length
  have eC : (ofP was now).Changes = chgs was now now.length := rfl
  rw [eC]
  generalize hcs : chgs was now now.length = cs at hN rise ⊢
  refine wfor (fun i => i) (fun n => (n : Int)) cs.length (fun _ => True) (fun _ _ => rfl) rfl trivial ?_ ?_
  · intro n hn _ K hK
    replace hK := hK trivial
    try dsimp only
    rw [if_pos (by omega)]
    obtain ⟨i, hi, pg, ln, ne⟩ := chgs_get was now now.length (k := n) (c := cs[n]) (by rw [hcs, List.getElem?_eq_getElem hn])
    have ix : (cs[n].Page - 1).toNat = i := by omega
    have gN : now[(cs[n].Page - 1).toNat]? = some now[i] := by rw [ix, List.getElem?_eq_getElem hi]
    have ln' : cs[n].Lines = now[i] := by rw [ln]; simp [List.getD, hi]
    have lb : cs[n].Lines.length ≤ big := by rw [ln']; exact k1 _ (List.getElem_mem hi)
    have fin : I64 ((n : Int) + 1) ∧ K ((n : Int) + 1) := ⟨i64_lt (by omega) (by omega), by simpa using hK⟩
    have tail : (I64 (cs[n].Page - 1)) ∧
        (0 ≤ cs[n].Page - 1) ∧
        ∃ v3 : List ByteArray, now[(cs[n].Page - 1).toNat]? = some v3 ∧
        ∃ r14 : Bool, stylusref35_Lines.w cs[n].Lines v3 (fun r' => r' = r14) ∧
        if (!r14) = true then
          Q false
        else
          if cs[n].Page ≤ (was.length : Int) then
            (I64 (cs[n].Page - 1)) ∧
            ∃ v4 : List ByteArray, was[(cs[n].Page - 1).toNat]? = some v4 ∧
            ∃ r15 : Bool, stylusref35_Lines.w cs[n].Lines v4 (fun r' => r' = r15) ∧
            if r15 = true then
              Q false
            else
              I64 ((n : Int) + 1) ∧ K ((n : Int) + 1)
          else
            I64 ((n : Int) + 1) ∧ K ((n : Int) + 1) := by
      have i64 : I64 (cs[n].Page - 1) := i64_lt (by omega) (by omega)
      refine ⟨i64, by omega, _, gN, true, Lines_w _ _ lb (by simp [ln']), ?_⟩
      rw [if_neg (by decide)]
      split
      · rename_i hw
        have hiw : i < was.length := by omega
        have gW : was[(cs[n].Page - 1).toNat]? = some was[i] := by rw [ix, List.getElem?_eq_getElem hiw]
        refine ⟨i64, _, gW, false, Lines_w _ _ lb ?_, ?_⟩
        · rw [List.getElem?_eq_getElem hiw, List.getElem?_eq_getElem hi] at ne
          rw [ln']
          exact decide_eq_false fun q => ne (by rw [q])
        · rw [if_neg (by decide)]
          exact fin
      · exact fin
    unfold wcut
    dsimp only
    refine ⟨by omega, cs[n], get_some cs hn, ?_⟩
    rw [if_neg (by omega), if_neg (by omega)]
    split
    · rename_i hn0
      have hn1 : ((n : Int) - 1).toNat = n - 1 := by omega
      refine ⟨i64_lt (by omega) (by omega), by omega, cs[n - 1]'(by omega), by rw [hn1, List.getElem?_eq_getElem (by omega)], ?_⟩
      have := List.pairwise_iff_getElem.1 rise (n - 1) n (by omega) hn (by omega)
      rw [if_neg (by omega)]
      exact tail
    · exact tail
  · intro _ K
    try dsimp only
    rw [if_neg (by omega)]
    exact awake_w h
end Go.Proofs.YtlnjajfagildnaaDoor
