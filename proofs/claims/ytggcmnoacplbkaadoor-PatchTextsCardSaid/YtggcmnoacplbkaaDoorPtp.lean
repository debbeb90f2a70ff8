/- PatchTexts, plainly: what patch.Read takes a text for; the law. -/
import Derived.Test.YtggcmnoacplbkaaDoorPts
namespace Go.Proofs.YtggcmnoacplbkaaDoor
open Go Go.Proofs.YtggcmnoacplbkaaDoor.AM
set_option linter.unusedVariables false
set_option linter.unusedSimpArgs false

/-- a patch that a text tells, of so many lines as may be told -/
def Cand (s : ByteArray) (p : ApiPatch) : Prop := s = textT p ∧ toldB p = true ∧ ∀ c ∈ p.Changes, (c.Lines.length : Int) ≤ 999999999
theorem told_iff (p : ApiPatch) : toldB p = true ↔ risingF p.Pages 0 p.Changes = true ∧ (∀ c ∈ p.Changes, ∀ x ∈ c.Lines, (10 : UInt8) ∉ lb x) ∧ 0 ≤ p.Pages ∧ p.Pages ≤ 999999999 := by
  have e : hasLF p = false ↔ ∀ c ∈ p.Changes, ∀ x ∈ c.Lines, (10 : UInt8) ∉ lb x := by
    unfold hasLF lfs
    simp only [List.any_eq_false, Bool.not_eq_true]
    constructor
    · intro h c hc x hx hm
      have := h c hc x hx
      rw [(oneByte_iff x 10).2 hm] at this; cases this
    · intro h c hc x hx
      cases e : oneByte x 10 with
      | false => rfl
      | true => exact absurd ((oneByte_iff x 10).1 e) (h c hc x hx)
  unfold toldB
  simp only [Bool.and_eq_true, Bool.not_eq_true', decide_eq_true_eq, e]
  constructor
  · rintro ⟨⟨a, b⟩, c, d⟩; exact ⟨a, b, c, d⟩
  · rintro ⟨a, b, c, d⟩; exact ⟨⟨a, b⟩, c, d⟩
theorem rising_app {P : Int} {last : Int} : ∀ {a b : List ApiChange} {l0 : Int}, (∀ cs, risingF P l0 (a ++ cs) = risingF P last cs) → ∀ c, last < c.Page → c.Page ≤ P → ∀ cs, risingF P l0 ((a ++ [c]) ++ cs) = risingF P c.Page cs := by
  intro a b l0 h c h1 h2 cs
  rw [List.append_assoc, h]
  simp only [List.cons_append, List.nil_append]
  exact risingF_true h1 h2

theorem patch_w (s : ByteArray) (hs : s.size ≤ 1000000000000) {Q : ApiPatch → PatchReader → Prop} {X : AV → Prop} (h1 : ∀ p c, s = textT p → toldB p = true → (∀ p', Cand s p' → p' = p) → Q p c)
    (h2 : (∀ p, Cand s p → False) → ∀ n, 0 < n → X (wrongAV n)) : patch_reader_patch_i0.w ⟨s, 0⟩ Q X := by
  have cand : ∀ p, Cand s p → lb s = lb tPages ++ lb (itoaS p.Pages) ++ 10 :: (p.Changes.map chL).flatten ∧ 0 ≤ p.Pages ∧ p.Pages ≤ 999999999 := fun p ⟨e, t, _⟩ => by
    obtain ⟨_, _, a, b⟩ := (told_iff p).1 t
    refine ⟨?_, a, b⟩
    rw [e, lb_text]; simp [topL]
  unfold patch_reader_patch_i0.w
  refine next_w tPages ⟨s, 0⟩ (by decide) (by show s.size ≤ _; omega) (Int.le_refl _) (by show (0 : Int) ≤ _; decide) (fun a b he ha => ?_) (fun hn => h2 (fun p hp => ?_) _ (by show (0 : Int) < 0 + 1; decide))
  rotate_left
  · obtain ⟨e, k0, k1⟩ := cand p hp
    exact hn _ _ (itoa_no k0 (by decide)) e
  have first : ∀ p, Cand s p → a = itoaS p.Pages ∧ lb b = (p.Changes.map chL).flatten := fun p hp => by
    obtain ⟨e, k0, k1⟩ := cand p hp
    replace he : lb s = lb tPages ++ lb a ++ 10 :: lb b := he
    rw [e, List.append_assoc, List.append_assoc] at he
    obtain ⟨q1, q2⟩ := split_at (List.append_cancel_left he) (itoa_no k0 (by decide)) ha
    exact ⟨lb_inj q1.symm, q2.symm⟩
  have hsz : (lb s).length = s.size := lb_size s
  have ha_sz : a.size + b.size + 1 ≤ s.size := by
    have := congrArg List.length he
    simp only [List.length_append, List.length_cons, lb_size] at this
    replace this : s.size = tPages.size + a.size + (b.size + 1) := this
    omega
  refine number_w a 0 999999999 _ (by omega) (by decide) (by decide) (fun n hna hn0 hn1 => ?_) (fun hn => h2 (fun p hp => ?_) _ (by show (0 : Int) < 0 + 1; decide))
  rotate_left
  · obtain ⟨e, k0, k1⟩ := cand p hp
    exact hn p.Pages (first p hp).1 k0 k1
  subst hna
  refine ⟨fun ⟨a1, a2, a3, a4⟩ => lb s = topL n ++ (a3.map chL).flatten ++ lb a1.rest ∧ (0 < a1.line ∧ a1.line + a1.rest.size ≤ s.size) ∧ a2 = n ∧ (0 ≤ a4 ∧ a4 ≤ n) ∧ (∀ cs, risingF n 0 (a3 ++ cs) = risingF n a4 cs) ∧ (∀ c ∈ a3, ∀ x ∈ c.Lines, (10 : UInt8) ∉ lb x) ∧
      ∀ p, Cand s p → p.Pages = n ∧ ∃ cs, p.Changes = a3 ++ cs ∧ lb a1.rest = (cs.map chL).flatten, fun ⟨a1, a2, a3, a4⟩ => a1.rest.size, ?_, ?_⟩
  · refine ⟨?_, ⟨by show (0 : Int) < 0 + 1; decide, by show (0 : Int) + 1 + b.size ≤ s.size; omega⟩, rfl, ⟨by decide, hn0⟩, fun cs => rfl, by simp, fun p hp => ?_⟩
    · replace he : lb s = lb tPages ++ lb (itoaS n) ++ 10 :: lb b := he
      rw [he]; simp [topL]
    · obtain ⟨e, k0, k1⟩ := cand p hp
      obtain ⟨f1, f2⟩ := first p hp
      exact ⟨itoaS_inj k0 (by omega) hn0 (by omega) f1.symm, p.Changes, rfl, f2⟩
  · rintro ⟨a1, a2, a3, a4⟩ ⟨i1, ⟨i2, i3⟩, rfl, i4, i5, i6, i7⟩
    dsimp only
    refine ite_intro (fun hz => ?_) fun hz => ?_
    · -- the end
      have hr : lb a1.rest = [] := by rw [hz]
      rw [hr, List.append_nil] at i1
      have ht : toldB ⟨a2, a3⟩ = true := (told_iff _).2 ⟨by have := i5 []; rw [List.append_nil] at this; rw [this]; rfl, i6, hn0, hn1⟩
      refine h1 _ _ (lb_inj (by rw [lb_text]; exact i1)) ht fun p hp => ?_
      obtain ⟨q1, cs, q2, q3⟩ := i7 p hp
      rw [hr] at q3
      have : cs = [] := by
        cases cs with
        | nil => rfl
        | cons c cs =>
          rw [List.map_cons, List.flatten_cons] at q3
          exact absurd (List.append_eq_nil_iff.1 q3.symm).1 (chL_ne c)
      subst this
      rw [List.append_nil] at q2
      cases p; simp only at q1 q2; rw [q1, q2]
    -- one more change
    have hne : lb a1.rest ≠ [] := fun e => hz (lb_inj (by rw [e]))
    have hsz1 := lb_size a1.rest
    have cand2 : ∀ p, Cand s p → p.Pages = a2 ∧ ∃ c cs, p.Changes = a3 ++ c :: cs ∧ lb a1.rest = lb tPage ++ (lb (itoaS c.Page) ++ 32 :: lb (itoaS (c.Lines.length : Int))) ++ 10 :: ((c.Lines.map lnL).flatten ++ (cs.map chL).flatten) ∧ a4 < c.Page ∧ c.Page ≤ a2 ∧ (c.Lines.length : Int) ≤ 999999999 ∧ ∀ x ∈ c.Lines, (10 : UInt8) ∉ lb x := fun p hp => by
      obtain ⟨q1, cs, q2, q3⟩ := i7 p hp
      cases cs with
      | nil => exact absurd q3 hne
      | cons c cs =>
        have ht := (told_iff p).1 hp.2.1
        have hr := ht.1
        rw [q1, q2, i5] at hr
        unfold risingF at hr
        simp only [Bool.and_eq_true, decide_eq_true_eq] at hr
        have hc : c ∈ p.Changes := by rw [q2]; simp
        refine ⟨q1, c, cs, q2, ?_, hr.1, hr.2.1, hp.2.2 c hc, ht.2.1 c hc⟩
        rw [q3]; simp [chL, hdL]
    refine next_w tPage a1 (by decide) (by omega) (by omega) (by omega) (fun r3 b2 he2 ha2 => ?_) (fun hn => h2 (fun p hp => ?_) _ (by omega))
    rotate_left
    · obtain ⟨q1, c, cs, q2, q3, q4, q5, q6, q7⟩ := cand2 p hp
      exact hn _ _ (by simp [itoa_no (show 0 ≤ c.Page by omega) (c := 10) (by decide), itoa_no (show 0 ≤ (c.Lines.length : Int) by omega) (c := 10) (by decide)]) q3
    have second : ∀ p, Cand s p → p.Pages = a2 ∧ ∃ c cs, p.Changes = a3 ++ c :: cs ∧ lb r3 = lb (itoaS c.Page) ++ 32 :: lb (itoaS (c.Lines.length : Int)) ∧ lb b2 = (c.Lines.map lnL).flatten ++ (cs.map chL).flatten ∧ a4 < c.Page ∧ c.Page ≤ a2 ∧ (c.Lines.length : Int) ≤ 999999999 ∧ ∀ x ∈ c.Lines, (10 : UInt8) ∉ lb x := fun p hp => by
      obtain ⟨q1, c, cs, q2, q3, q4, q5, q6, q7⟩ := cand2 p hp
      refine ⟨q1, c, cs, q2, ?_, ?_, q4, q5, q6, q7⟩
      all_goals
        rw [q3, List.append_assoc (lb tPage), List.append_assoc (lb tPage)] at he2
        obtain ⟨z1, z2⟩ := split_at (List.append_cancel_left he2) (by simp [itoa_no (show 0 ≤ c.Page by omega) (c := 10) (by decide), itoa_no (show 0 ≤ (c.Lines.length : Int) by omega) (c := 10) (by decide)]) ha2
        first | exact z1.symm | exact z2.symm
    have hl2 : a1.rest.size = tPage.size + r3.size + (b2.size + 1) := by
      have := congrArg List.length he2
      simpa only [List.length_append, List.length_cons, lb_size] using this
    have hl3 : tPage.size = 5 := rfl
    refine Cut_w r3 32 (by omega) (fun r4 r5 he3 ha3 => ?_) (fun hn => ?_)
    rotate_left
    · rw [if_pos (by simp)]
      refine h2 (fun p hp => ?_) _ (by show 0 < a1.line + 1; omega)
      obtain ⟨q1, c, cs, q2, q3, _⟩ := second p hp
      exact hn (by rw [q3]; simp)
    rw [if_neg (by simp)]
    have third : ∀ p, Cand s p → p.Pages = a2 ∧ ∃ c cs, p.Changes = a3 ++ c :: cs ∧ r4 = itoaS c.Page ∧ r5 = itoaS (c.Lines.length : Int) ∧ lb b2 = (c.Lines.map lnL).flatten ++ (cs.map chL).flatten ∧ a4 < c.Page ∧ c.Page ≤ a2 ∧ (c.Lines.length : Int) ≤ 999999999 ∧ ∀ x ∈ c.Lines, (10 : UInt8) ∉ lb x := fun p hp => by
      obtain ⟨q1, c, cs, q2, q3, q3', q4, q5, q6, q7⟩ := second p hp
      rw [q3] at he3
      obtain ⟨z1, z2⟩ := split_at he3 (itoa_no (by omega) (by decide)) ha3
      exact ⟨q1, c, cs, q2, (lb_inj z1).symm, (lb_inj z2).symm, q3', q4, q5, q6, q7⟩
    have hl4 : r3.size = r4.size + (r5.size + 1) := by
      have := congrArg List.length he3
      simpa only [List.length_append, List.length_cons, lb_size] using this
    dsimp only
    obtain ⟨i4, i4'⟩ := i4
    refine ⟨i64_lt (by omega) (by omega), number_w r4 (a4 + 1) a2 _ (by omega) (by omega) (by omega) (fun page hpg hp0 hp1 => ?_) (fun hn => h2 (fun p hp => ?_) _ (by show 0 < a1.line + 1; omega))⟩
    rotate_left
    · obtain ⟨q1, c, cs, q2, q3, _, _, q4, q5, _⟩ := third p hp
      exact hn c.Page q3 (by omega) q5
    refine number_w r5 0 999999999 _ (by omega) (by decide) (by decide) (fun m hm hm0 hm1 => ?_) (fun hn => h2 (fun p hp => ?_) _ (by show 0 < a1.line + 1; omega))
    rotate_left
    · obtain ⟨q1, c, cs, q2, _, q3, _, _, _, q6, _⟩ := third p hp
      exact hn _ q3 (by omega) q6
    subst hpg; subst hm
    have he4 : lb a1.rest = hdL page m ++ lb b2 := by
      rw [he2, he3]; simp [hdL]
    have fourth : ∀ p, Cand s p → p.Pages = a2 ∧ ∃ c cs, p.Changes = a3 ++ c :: cs ∧ c.Page = page ∧ (c.Lines.length : Int) = m ∧ lb b2 = (c.Lines.map lnL).flatten ++ (cs.map chL).flatten ∧ ∀ x ∈ c.Lines, (10 : UInt8) ∉ lb x := fun p hp => by
      obtain ⟨q1, c, cs, q2, q3, q4, q5, q6, q7, q8, q9⟩ := third p hp
      exact ⟨q1, c, cs, q2, itoaS_inj (by omega) (by omega) (by omega) (by omega) q3.symm, itoaS_inj (by omega) (by omega) (by omega) (by omega) q4.symm, q5, q9⟩
    have h3len : a3.length ≤ s.size := by
      have := congrArg List.length i1
      have h := flatten_length chL chL_ne a3
      simp only [List.length_append, lb_size] at this; omega
    refine ⟨fun ⟨a5, a6, a7, a8⟩ => lb b2 = (a7.map lnL).flatten ++ lb a5.rest ∧ (0 < a5.line ∧ a5.line + a5.rest.size ≤ s.size ∧ a5.rest.size + 1 ≤ a1.rest.size) ∧ a6 = page ∧ (a7.length : Int) = a8 ∧ a8 ≤ m ∧ (∀ x ∈ a7, (10 : UInt8) ∉ lb x) ∧
        ∀ p, Cand s p → p.Pages = a2 ∧ ∃ c cs ls, p.Changes = a3 ++ c :: cs ∧ c.Page = page ∧ (c.Lines.length : Int) = m ∧ c.Lines = a7 ++ ls ∧ lb a5.rest = (ls.map lnL).flatten ++ (cs.map chL).flatten ∧ ∀ x ∈ c.Lines, (10 : UInt8) ∉ lb x, fun ⟨a5, a6, a7, a8⟩ => (m - a8).toNat, ?_, ?_⟩
    · refine ⟨by simp, ⟨by show 0 < a1.line + 1; omega, by show a1.line + 1 + b2.size ≤ s.size; omega, by show b2.size + 1 ≤ _; omega⟩, rfl, rfl, hm0, by simp, fun p hp => ?_⟩
      obtain ⟨q1, c, cs, q2, q3, q4, q5, q6⟩ := fourth p hp
      exact ⟨q1, c, cs, c.Lines, q2, q3, q4, rfl, q5, q6⟩
    rintro ⟨a5, a6, a7, a8⟩ ⟨j1, ⟨j2, j3, j3'⟩, rfl, j4, j5, j6, j7⟩
    have h7len : a7.length ≤ s.size := by
      have := congrArg List.length j1
      have h := flatten_length lnL (fun _ => by simp [lnL]) a7
      simp only [List.length_append, lb_size] at this; omega
    dsimp only
    refine ite_intro (fun hlt => ?_) fun hlt => ?_
    · -- one more line
      have more : ∀ p, Cand s p → p.Pages = a2 ∧ ∃ c cs y ls, p.Changes = a3 ++ c :: cs ∧ c.Page = a6 ∧ (c.Lines.length : Int) = m ∧ c.Lines = a7 ++ y :: ls ∧ lb a5.rest = lb tGt ++ lb y ++ 10 :: ((ls.map lnL).flatten ++ (cs.map chL).flatten) ∧ ∀ x ∈ c.Lines, (10 : UInt8) ∉ lb x := fun p hp => by
        obtain ⟨q1, c, cs, ls, q2, q3, q4, q5, q6, q7⟩ := j7 p hp
        cases ls with
        | nil => rw [q5, List.append_nil] at q4; omega
        | cons y ls =>
          refine ⟨q1, c, cs, y, ls, q2, q3, q4, q5, ?_, q7⟩
          rw [q6]; simp [lnL, lb]
      refine next_w tGt a5 (by decide) (by omega) (by omega) (by omega) (fun x b5 he5 hx => ?_) (fun hn => h2 (fun p hp => ?_) _ (by omega))
      rotate_left
      · obtain ⟨q1, c, cs, y, ls, q2, q3, q4, q5, q6, q7⟩ := more p hp
        exact hn _ _ (q7 y (by rw [q5]; simp)) q6
      have hl5 : a5.rest.size = tGt.size + x.size + (b5.size + 1) := by
        have := congrArg List.length he5
        simpa only [List.length_append, List.length_cons, lb_size] using this
      have hl6 : tGt.size = 1 := rfl
      refine ⟨by simp only [List.length_cons, List.length_nil]; omega, i64_lt (by omega) (by omega), ⟨?_, ⟨by show 0 < a5.line + 1; omega, by show a5.line + 1 + b5.size ≤ s.size; omega, by show b5.size + 1 ≤ _; omega⟩, rfl, by simp; omega, by omega, ?_, fun p hp => ?_⟩, by omega⟩
      · rw [j1, he5]; simp [lnL, lb]
      · intro z hz
        rcases List.mem_append.1 hz with hz | hz
        · exact j6 z hz
        · rw [List.mem_singleton] at hz; subst hz; exact hx
      · obtain ⟨q1, c, cs, y, ls, q2, q3, q4, q5, q6, q7⟩ := more p hp
        rw [q6, List.append_assoc, List.append_assoc] at he5
        obtain ⟨z1, z2⟩ := split_at (List.append_cancel_left he5) (q7 y (by rw [q5]; simp)) hx
        refine ⟨q1, c, cs, ls, q2, q3, q4, ?_, z2.symm, q7⟩
        rw [q5, lb_inj z1]; simp
    · -- the change is there
      have hm7 : (a7.length : Int) = m := by omega
      refine ⟨by omega, ⟨?_, ⟨j2, j3⟩, rfl, ⟨by omega, hp1⟩, ?_, ?_, fun p hp => ?_⟩, by omega⟩
      · rw [i1, he4, j1]
        simp only [List.map_append, List.map_cons, List.map_nil, List.flatten_append, List.flatten_cons, List.flatten_nil, chL, hm7, List.append_nil, List.append_assoc]
      · exact fun cs => rising_app (a := a3) (b := []) i5 ⟨a6, a7⟩ (by show a4 < a6; omega) hp1 cs
      · intro c hc
        rcases List.mem_append.1 hc with hc | hc
        · exact i6 c hc
        · rw [List.mem_singleton] at hc; subst hc; exact j6
      · obtain ⟨q1, c, cs, ls, q2, q3, q4, q5, q6, q7⟩ := j7 p hp
        have hls : ls = [] := by
          rw [q5, List.length_append] at q4
          exact List.length_eq_zero_iff.1 (by omega)
        subst hls
        rw [List.append_nil] at q5
        refine ⟨q1, cs, ?_, by rw [q6]; simp⟩
        rw [q2]
        have : c = ⟨a6, a7⟩ := by cases c; simp only at q3 q5; rw [q3, q5]
        rw [this]; simp

theorem mem_flatten_length {α β : Type} (f : α → List β) : ∀ {l : List α} {x : α}, x ∈ l → (f x).length ≤ (l.map f).flatten.length
  | y :: l, x, h => by
    simp only [List.map_cons, List.flatten_cons, List.length_append]
    rcases List.mem_cons.1 h with rfl | h
    · omega
    · have := mem_flatten_length f h; omega
theorem text_small {q : ApiPatch} {s : ByteArray} (e : s = textT q) : q.Changes.length ≤ s.size ∧ ∀ c ∈ q.Changes, c.Lines.length ≤ s.size ∧ ∀ x ∈ c.Lines, x.size ≤ s.size := by
  have hl := congrArg List.length (lb_text q)
  rw [← e, lb_size, List.length_append] at hl
  refine ⟨by have := flatten_length chL chL_ne q.Changes; omega, fun c hc => ?_⟩
  have h1 := mem_flatten_length chL hc
  have h2 : (chL c).length = (hdL c.Page c.Lines.length).length + (c.Lines.map lnL).flatten.length := by unfold chL; rw [List.length_append]
  refine ⟨by have := flatten_length lnL (fun _ => by simp [lnL]) c.Lines; omega, fun x hx => ?_⟩
  have h3 := mem_flatten_length lnL hx
  have h4 : (lnL x).length = x.size + 2 := by simp [lnL, lb_size]
  omega
theorem PatchTexts_w (p : ApiPatch) (s : ByteArray) (hb : p.Changes.length ≤ big) (hb2 : ∀ c ∈ p.Changes, c.Lines.length ≤ big) {Q : Bool → Prop} (h : Q true) : styluslaw35_PatchTexts.w p s Q := by
  unfold styluslaw35_PatchTexts.w
  refine many_w p hb hb2 fun r1 hr => ite_intro (fun _ => awake_w h) fun hr1 => ite_intro (fun _ => awake_w h) fun h3 => ?_
  obtain ⟨m1, m2⟩ := hr (by simpa using hr1)
  have m2' : ∀ c ∈ p.Changes, c.Lines.length ≤ 3000 ∧ ∀ x ∈ c.Lines, x.size ≤ 3000 := fun c hc => ⟨by have := (m2 c hc).1; omega, fun x hx => by have := (m2 c hc).2 x hx; omega⟩
  refine Write_w p (by omega) m2' ?_
  unfold wcut
  have rest : patch_Read.w s (fun r7 =>
      if r7.2.2 = 0 then patch_Write.w r7.1 (fun r10 => if r10.1 = s then (if r10.2 = 0 then styluslaw35_awake.w (fun r11 => Q r11) else Q false) else Q false)
      else stylusref35_Same.w r7.1 (⟨0, ([] : List ApiChange)⟩ : ApiPatch) (fun r8 => if r8 = true then (if 0 < r7.2.1 then styluslaw35_awake.w (fun r9 => Q r9) else Q false) else Q false)) := by
    unfold patch_Read.w
    refine patch_w s (by omega) (fun q c e ht _ => ?_) (fun _ n hn => ⟨n, rfl, ?_⟩)
    · try dsimp only
      rw [if_pos rfl]
      obtain ⟨k1, k2⟩ := text_small e
      refine Write_w q (by omega) (fun c hc => ⟨by have := (k2 c hc).1; omega, fun x hx => by have := (k2 c hc).2 x hx; omega⟩) ?_
      unfold resT
      rw [if_pos ht]
      try dsimp only
      rw [if_pos e.symm, if_pos rfl]
      exact awake_w h
    · try dsimp only
      rw [if_neg (by decide)]
      refine Same_w _ _ (by decide) (by decide) ?_
      rw [decide_eq_true rfl, if_pos rfl, if_pos hn]
      exact awake_w h
  unfold resT
  by_cases ht : toldB p = true
  · rw [if_pos ht]
    try dsimp only
    rw [if_pos rfl]
    unfold patch_Read.w
    obtain ⟨o1, o2, o3⟩ := told_ok ht m2'
    have hz : (textT p).size ≤ 1000000000000 := by
      have a := fold_size p.Changes o3 (topT p)
      have b := topT_size o1 o2
      unfold textT; omega
    have cp : Cand (textT p) p := ⟨rfl, ht, fun c hc => by have := (m2 c hc).1; omega⟩
    refine patch_w (textT p) hz (fun q c _ _ hu => ?_) (fun hno => absurd cp (hno p))
    have : p = q := hu p cp
    subst this
    try dsimp only
    rw [if_pos rfl, if_pos rfl]
    refine Same_w _ _ hb hb2 ?_
    rw [decide_eq_true rfl, if_neg (by simp)]
    exact rest
  · rw [if_neg ht]
    try dsimp only
    rw [if_neg (by decide), if_pos rfl, if_pos rfl]
    exact rest
end Go.Proofs.YtggcmnoacplbkaaDoor
