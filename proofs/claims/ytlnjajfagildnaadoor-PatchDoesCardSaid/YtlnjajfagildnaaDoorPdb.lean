/- PatchDoes' functions, plainly: the document's Do, Of and Own. -/
import Derived.Test.YtlnjajfagildnaaDoorPda
namespace Go.Proofs.YtlnjajfagildnaaDoor
open Go Go.Proofs.YtlnjajfagildnaaDoor.AM
set_option linter.unusedVariables false
set_option linter.unusedSimpArgs false

theorem change_w (p : ApiPatch) (hb : p.Changes.length ≤ 60) (a : Int) {Q : Int → Prop} (h1 : ∀ n (hn : n < p.Changes.length), p.Changes[n].Page = a → Q (n : Int)) (h2 : (∀ c ∈ p.Changes, c.Page ≠ a) → Q (-1)) : stylusref35_change.w p a Q := by
  unfold stylusref35_change.w
  refine wfor (fun i => i) (fun n => (n : Int)) p.Changes.length (fun n => ∀ c ∈ p.Changes.take n, c.Page ≠ a) (fun _ _ => rfl) rfl (by simp) ?_ ?_
  · intro n hn hp K hK
    try dsimp only
    rw [if_pos (by omega)]
    refine ⟨by omega, p.Changes[n], get_some _ hn, ite_intro (fun e => h1 n hn e) fun e => ⟨i64_lt (by omega) (by omega), ?_⟩⟩
    have := hK (fun c hc => by
      rw [take_snoc _ hn] at hc
      rcases List.mem_append.1 hc with hc | hc
      · exact hp c hc
      · rw [List.mem_singleton] at hc; subst hc; exact e)
    simpa using this
  · intro hp K
    try dsimp only
    rw [if_neg (by omega)]
    rw [List.take_length] at hp
    exact h2 hp

theorem runD_rising (was : List (List ByteArray)) : ∀ (k : Nat) (cs : List ApiChange) (out : List (List ByteArray)) (o : List (List ByteArray)), runD was k cs out = some o → risingF ((out.length : Int) + (k : Int)) (out.length : Int) cs = true
  | 0, [], out, o, _ => rfl
  | 0, _ :: _, out, o, h => by simp [runD] at h
  | k + 1, [], out, o, h => rfl
  | k + 1, c :: cs, out, o, h => by
    unfold runD at h
    split at h
    · rename_i e
      have := runD_rising was k cs _ o h
      rw [List.length_append, List.length_singleton] at this
      push_cast at this
      rw [risingF_true (by omega) (by push_cast; omega), e]
      rw [show ((out.length : Int) + ((k + 1 : Nat) : Int)) = (out.length : Int) + 1 + (k : Int) by push_cast; omega]
      exact this
    · rename_i e
      obtain ⟨l, hl, h⟩ := Option.bind_eq_some_iff.1 h
      have := runD_rising was k (c :: cs) _ o h
      rw [List.length_append, List.length_singleton] at this
      push_cast at this
      have hp := risingF_pages this c (by simp)
      rw [risingF_true (by omega) (by omega)] at this ⊢
      rw [show ((out.length : Int) + ((k + 1 : Nat) : Int)) = (out.length : Int) + 1 + (k : Int) by push_cast; omega]
      exact this

theorem refDo_w (was : List (List ByteArray)) (p : ApiPatch) (h0 : was.length ≤ 60) (h1 : p.Changes.length ≤ 60) {Q : List (List ByteArray) × Int → Prop} (h : Q (resD (doP was p))) : stylusref35_Do.w was p Q := by
  unfold stylusref35_Do.w
  refine Rising_w p (by unfold big; omega) (ite_intro (fun c0 => ?_) fun c0 => ⟨i64_lt (by omega) (by omega), ite_intro (fun c2 => ?_) fun c2 => ?_⟩)
  · have : doP was p = none := by
      unfold doP
      split
      · rfl
      · rename_i c
        cases hr : runD was p.Pages.toNat p.Changes [] with
        | none => rfl
        | some o =>
          have := runD_rising _ _ _ _ _ hr
          have e : (((([] : List (List ByteArray)).length : Nat) : Int) + (p.Pages.toNat : Int)) = p.Pages := by simp only [List.length_nil]; omega
          rw [e] at this
          have : rising p = true := by
            unfold rising
            rw [show (0 : Int) = ((([] : List (List ByteArray)).length : Nat) : Int) from rfl, this]
            simp only [List.length_nil, Bool.true_and, decide_eq_true_eq]; omega
          rw [this] at c0; simp at c0
    rw [this] at h; exact h
  · unfold doP at h; rw [if_pos (Or.inr c2)] at h; exact h
  have hr : rising p = true := by simpa using c0
  unfold rising at hr
  simp only [Bool.and_eq_true, decide_eq_true_eq] at hr
  unfold doP at h; rw [if_neg (by omega)] at h
  refine ⟨fun s => ∃ n k : Nat, s.2 = (n : Int) + 1 ∧ s.1.length = n ∧ n + k = p.Pages.toNat ∧ ∃ done cs, p.Changes = done ++ cs ∧ (∀ c ∈ done, c.Page ≤ (n : Int)) ∧ risingF p.Pages (n : Int) cs = true ∧ Q (resD (runD was k cs s.1)), fun s => (p.Pages + 1 - s.2).toNat, ⟨0, p.Pages.toNat, rfl, rfl, by omega, [], p.Changes, rfl, by simp, hr.1, h⟩, ?_⟩
  rintro ⟨a1, a2⟩ ⟨n, k, e1, e2, e3, done, cs, f1, f2, f3, hq⟩
  dsimp only at e1 e2 hq ⊢
  subst e1
  cases k with
  | zero =>
    rw [if_neg (by omega)]
    cases cs with
    | nil => exact hq
    | cons c cs =>
      have := risingF_pages f3 c (by simp)
      omega
  | succ k =>
    rw [if_pos (by omega)]
    unfold wcut
    dsimp only
    have was_path : (∀ c ∈ p.Changes, c.Page ≠ (n : Int) + 1) → risingF p.Pages ((n : Int) + 1) cs = true → Q (resD ((was[a1.length]?).bind fun l => runD was k cs (a1 ++ [l]))) →
        (if (-1 : Int) < 0 then (if (was.length : Int) < (n : Int) + 1 then Q (([] : List (List ByteArray)), 1) else
          (if (-1 : Int) < 0 then (I64 ((n : Int) + 1 - 1)) ∧ (0 ≤ (n : Int) + 1 - 1) ∧ ∃ v1 : List ByteArray, was[((n : Int) + 1 - 1).toNat]? = some v1 ∧ ((a1.length + ([v1] : List (List ByteArray)).length) * 24 ≤ 140737488355328) ∧
            (I64 ((n : Int) + 1 + 1)) ∧ (∃ n_1 k : Nat, (n : Int) + 1 + 1 = (n_1 : Int) + 1 ∧ (a1 ++ ([v1] : List (List ByteArray))).length = n_1 ∧ n_1 + k = p.Pages.toNat ∧ ∃ done cs, p.Changes = done ++ cs ∧ (∀ c ∈ done, c.Page ≤ (n_1 : Int)) ∧ risingF p.Pages (n_1 : Int) cs = true ∧ Q (resD (runD was k cs (a1 ++ ([v1] : List (List ByteArray)))))) ∧ (p.Pages + 1 - ((n : Int) + 1 + 1)).toNat < (p.Pages + 1 - ((n : Int) + 1)).toNat
          else False)) else False) := by
      intro hno hris hq
      rw [if_pos (show (-1 : Int) < 0 by decide), if_pos (show (-1 : Int) < 0 by decide)]
      refine ite_intro (fun c => ?_) fun c => ?_
      · rw [List.getElem?_eq_none (by omega)] at hq; exact hq
      · have hw : n < was.length := by omega
        rw [e2, List.getElem?_eq_getElem hw] at hq
        refine ⟨i64_lt (by omega) (by omega), by omega, was[n], by rw [show ((n : Int) + 1 - 1).toNat = n by omega]; exact List.getElem?_eq_getElem hw, by simp only [List.length_cons, List.length_nil]; omega, i64_lt (by omega) (by omega), ⟨n + 1, k, by push_cast; rfl, by simp [e2], by omega, done, cs, f1, fun c hc => by have := f2 c hc; push_cast; omega, by push_cast; exact hris, hq⟩, by omega⟩
    have no : (∀ c ∈ cs, (n : Int) + 1 < c.Page) → ∀ c ∈ p.Changes, c.Page ≠ (n : Int) + 1 := by
      intro hc c hm
      rw [f1] at hm
      rcases List.mem_append.1 hm with hm | hm
      · have := f2 c hm; omega
      · have := hc c hm; omega
    have go : ∀ (hris : risingF p.Pages ((n : Int) + 1) cs = true) (hq : Q (resD ((was[a1.length]?).bind fun l => runD was k cs (a1 ++ [l])))), ∀ c ∈ p.Changes, c.Page ≠ (n : Int) + 1 := fun hris _ => no fun c hc => (risingF_pages hris c hc).1
    cases cs with
    | nil =>
      unfold runD at hq
      refine change_w p h1 _ (fun m hm e => absurd e (go rfl hq _ (List.getElem_mem hm))) fun hno => ?_
      have := was_path hno rfl hq
      rw [if_pos (show (-1 : Int) < 0 by decide)] at this ⊢
      rw [if_pos (show (-1 : Int) < 0 by decide)] at this ⊢
      exact this
    | cons c cs =>
      unfold runD at hq
      have hp := risingF_pages f3 c (by simp)
      rw [risingF_true (by omega) (by omega)] at f3
      by_cases e : c.Page = (n : Int) + 1
      · rw [if_pos (by omega)] at hq
        refine change_w p h1 _ (fun m hm em => ?_) fun hno => absurd e (hno c (by rw [f1]; simp))
        have hc : p.Changes[m] = c := by
          have hmm := List.getElem_mem hm
          generalize p.Changes[m] = d at hmm em ⊢
          rw [f1] at hmm
          rcases List.mem_append.1 hmm with hmm | hmm
          · have := f2 d hmm; omega
          · rcases List.mem_cons.1 hmm with hmm | hmm
            · exact hmm
            · have := risingF_pages f3 d hmm; omega
        rw [if_neg (by omega), if_neg (by omega)]
        refine ⟨by omega, c, by rw [Int.toNat_natCast, List.getElem?_eq_getElem hm, hc], by simp only [List.length_cons, List.length_nil]; omega, i64_lt (by omega) (by omega), ⟨n + 1, k, by push_cast; rfl, by simp [e2], by omega, done ++ [c], cs, by rw [f1]; simp, ?_, by push_cast; rw [← e]; exact f3, hq⟩, by omega⟩
        intro d hd
        rcases List.mem_append.1 hd with hd | hd
        · have := f2 d hd; push_cast; omega
        · rw [List.mem_singleton] at hd; subst hd; push_cast; omega
      · rw [if_neg (by omega)] at hq
        have hris : risingF p.Pages ((n : Int) + 1) (c :: cs) = true := by rw [risingF_true (by omega) (by omega)]; exact f3
        refine change_w p h1 _ (fun m hm e => absurd e (go hris hq _ (List.getElem_mem hm))) fun hno => ?_
        have := was_path hno hris hq
        rw [if_pos (show (-1 : Int) < 0 by decide)] at this ⊢
        rw [if_pos (show (-1 : Int) < 0 by decide)] at this ⊢
        exact this

theorem refOf_w (was now : List (List ByteArray)) (h1 : now.length ≤ 60) (h2 : ∀ l ∈ was, l.length ≤ 60) {Q : ApiPatch → Prop} (h : Q (ofP was now)) : stylusref35_Of.w was now Q := by
  unfold stylusref35_Of.w
  refine wfor (fun s => s.2.2.2.2) (fun n => (0, [], (now.length : Int), chgs was now n, (n : Int))) now.length (fun _ => True) (fun _ _ => rfl) rfl trivial ?_ ?_
  · intro n hn _ K hK
    replace hK := hK trivial
    try dsimp only
    rw [if_pos (by omega)]
    unfold wcut
    dsimp only
    have hlen := chgs_length was now n
    rw [chgs_succ] at hK
    have add : was[n]? ≠ now[n]? → (I64 ((n : Int) + 1)) ∧ (0 ≤ (n : Int)) ∧ ∃ v3 : List ByteArray, now[(n : Int).toNat]? = some v3 ∧
          (((chgs was now n).length + ([(⟨(n : Int) + 1, v3⟩ : ApiChange)] : List ApiChange).length) * 32 ≤ 140737488355328) ∧
          (I64 ((n : Int) + 1)) ∧ K (0, [], (now.length : Int), chgs was now n ++ ([(⟨(n : Int) + 1, v3⟩ : ApiChange)] : List ApiChange), (n : Int) + 1) := by
      intro hne
      refine ⟨i64_lt (by omega) (by omega), by omega, now[n], get_some now hn, by simp only [List.length_cons, List.length_nil]; omega, i64_lt (by omega) (by omega), ?_⟩
      rw [chg, if_neg hne] at hK
      simpa [List.getD, hn] using hK
    refine ite_intro (fun c => ?_) fun c => add (by rw [List.getElem?_eq_none (by omega), List.getElem?_eq_getElem hn]; simp)
    have hw : n < was.length := by omega
    refine ⟨by omega, was[n], get_some was hw, now[n], get_some now hn, _, Lines_w _ _ (by have := h2 _ (List.getElem_mem hw); unfold big; omega) rfl, ?_⟩
    refine ite_intro (fun e => ⟨i64_lt (by omega) (by omega), ?_⟩) fun e => add (by rw [List.getElem?_eq_getElem hw, List.getElem?_eq_getElem hn]; intro e2; exact e (by simpa using e2))
    rw [chg, if_pos (by rw [List.getElem?_eq_getElem hw, List.getElem?_eq_getElem hn]; simpa using e)] at hK
    simpa using hK
  · intro _ K
    try dsimp only
    rw [if_neg (by omega)]
    exact h
theorem refOwn_w (l : List (List ByteArray)) (h1 : l.length ≤ 60) (h2 : ∀ v ∈ l, v.length ≤ 60) {Q : List (List ByteArray) → Prop} (h : Q l) : stylusref35_Own.w l Q := by
  unfold stylusref35_Own.w
  refine wfor (fun s => s.2) (fun n => (l.take n, (n : Int))) l.length (fun _ => True) (fun _ _ => rfl) rfl trivial ?_ ?_
  · intro n hn _ K hK
    try dsimp only
    rw [if_pos (by omega)]
    have hv := h2 _ (List.getElem_mem hn)
    have hK := hK trivial
    rw [take_snoc _ hn] at hK
    refine ⟨by omega, l[n], get_some l hn, by simp only [List.length_nil]; omega, by rw [List.length_take]; omega, i64_lt (by omega) (by omega), by simpa using hK⟩
  · intro _ K
    try dsimp only
    rw [if_neg (by omega), List.take_length]; exact h
end Go.Proofs.YtlnjajfagildnaaDoor
