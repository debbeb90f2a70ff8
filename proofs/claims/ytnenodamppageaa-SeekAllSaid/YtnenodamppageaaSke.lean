/- the law SeekAll, plainly. -/
import Derived.Test.YtnenodamppageaaSkd
namespace Go.Proofs.Ytnenodamppageaa
open Go Go.Proofs.Ytnenodamppageaa.AM
set_option linter.unusedVariables false
set_option linter.unusedSimpArgs false

theorem tw_facts {α : Type} (p : α → Bool) : ∀ (l : List α), (∀ i, i < (l.takeWhile p).length → (l.takeWhile p)[i]? = l[i]? ∧ (l[i]?.map p) = some true) ∧ (l[(l.takeWhile p).length]?.map p) ≠ some true
  | [] => by simp
  | a :: l => by
    rw [List.takeWhile_cons]
    split
    · rename_i h
      obtain ⟨h1, h2⟩ := tw_facts p l
      refine ⟨fun i hi => ?_, by simpa using h2⟩
      match i with
      | 0 => simp [h]
      | i + 1 => simpa using h1 i (by simpa using hi)
    · rename_i h
      simpa using h

theorem letAt_lt {ts : List ApiTok} {i : Nat} (h : letAt ts (i : Int) = true) : ∃ hi : i < ts.length, tl ts[i] = true := by
  rcases Nat.lt_or_ge i ts.length with h1 | h1
  · exact ⟨h1, by rw [← letAt_nat ts h1]; exact h⟩
  · simp [letAt, h1] at h
theorem letAt_opt (ts : List ApiTok) (i : Nat) : letAt ts (i : Int) = (ts[i]?.map tl).getD false := by simp [letAt]

theorem word_facts {ts : List ApiTok} (hb : Toks ts) {x : Int × ByteArray} (h : x ∈ words ts) : ∃ n k : Nat, x.1 = (n : Int) ∧ x.2.size = k ∧ 0 < k ∧ n + k ≤ ts.length ∧ (∀ i : Nat, n ≤ i → i < n + k → letAt ts (i : Int) = true) ∧
    letAt ts ((n : Int) - 1) = false ∧ letAt ts ((n : Int) + (k : Int)) = false ∧ x.2 = ofBytes (((ts.drop n).takeWhile tl).map ApiTok.Ch) ∧ (∀ j, j < k → (strInts x.2)[j]? = ts[n + j]?.map ApiTok.Ch) := by
  rw [mem_words] at h
  obtain ⟨n, hn, e1, e2, e3, e4⟩ := h
  obtain ⟨t1, t2⟩ := tw_facts tl (ts.drop n)
  have tlen := takeWhile_le tl (ts.drop n)
  rw [List.length_drop] at tlen
  have hsz : x.2.size = ((ts.drop n).takeWhile tl).length := by rw [e4, ofBytes_size, List.length_map]
  have hby : strInts x.2 = ((ts.drop n).takeWhile tl).map ApiTok.Ch := by
    rw [e4, strInts_ofBytes]
    intro c hc
    obtain ⟨t, ht, rfl⟩ := List.mem_map.1 hc
    exact hb t (List.mem_of_mem_drop ((List.takeWhile_prefix tl).subset ht))
  refine ⟨n, _, e1, hsz, ?_, by omega, ?_, ?_, ?_, e4, ?_⟩
  · rw [List.drop_eq_getElem_cons hn, List.takeWhile_cons, if_pos e2]; simp
  · intro i h1 h2
    have := (t1 (i - n) (by omega)).2
    rw [List.getElem?_drop, show n + (i - n) = i by omega] at this
    rw [letAt_opt, this]; rfl
  · rcases Nat.eq_zero_or_pos n with rfl | h0
    · rfl
    · have := e3 h0
      rw [show (n : Int) - 1 = ((n - 1 : Nat) : Int) by omega, letAt_nat ts (by omega)]; exact this
  · rw [List.getElem?_drop] at t2
    have : ((n : Int) + (((ts.drop n).takeWhile tl).length : Int)) = ((n + ((ts.drop n).takeWhile tl).length : Nat) : Int) := by push_cast; rfl
    rw [this, letAt_opt]
    generalize (ts[n + ((ts.drop n).takeWhile tl).length]?.map tl) = o at t2
    rcases o with _ | _ | _
    · rfl
    · rfl
    · exact absurd rfl t2
  · intro j hj
    rw [hby, List.getElem?_map, (t1 j hj).1, List.getElem?_drop]

/-- a place within a word -/
def Cov (x : Int × ByteArray) (i : Nat) : Prop := x.1 ≤ (i : Int) ∧ (i : Int) < x.1 + (x.2.size : Int)
theorem cov_some {ts : List ApiTok} (hb : Toks ts) : ∀ i : Nat, letAt ts (i : Int) = true → ∃ x ∈ words ts, Cov x i := by
  have start : ∀ i : Nat, letAt ts (i : Int) = true → letAt ts ((i : Int) - 1) = false → ∃ x ∈ words ts, Cov x i := by
    intro i h h'
    obtain ⟨hi, ht⟩ := letAt_lt h
    refine ⟨((i : Int), ofBytes (((ts.drop i).takeWhile tl).map ApiTok.Ch)), (mem_words _ _).2 ⟨i, hi, rfl, ht, fun h0 => ?_, rfl⟩, Int.le_refl _, ?_⟩
    · rw [show (i : Int) - 1 = ((i - 1 : Nat) : Int) by omega, letAt_nat ts (by omega)] at h'; exact h'
    · show (i : Int) < (i : Int) + ((ofBytes (((ts.drop i).takeWhile tl).map ApiTok.Ch)).size : Int)
      rw [ofBytes_size, List.length_map, List.drop_eq_getElem_cons hi, List.takeWhile_cons, if_pos ht, List.length_cons]; omega
  intro i
  induction i with
  | zero => intro h; exact start 0 h rfl
  | succ i ih =>
    intro h
    by_cases h' : letAt ts (i : Int) = true
    · obtain ⟨x, hx, c⟩ := ih h'
      obtain ⟨n, k, e1, e2, e3, e4, e5, e6, e7, _⟩ := word_facts hb hx
      refine ⟨x, hx, ?_⟩
      unfold Cov at c ⊢
      refine ⟨by omega, ?_⟩
      rcases Int.lt_or_le ((i + 1 : Nat) : Int) (x.1 + (x.2.size : Int)) with h1 | h1
      · exact h1
      · have : ((i + 1 : Nat) : Int) = (n : Int) + (k : Int) := by omega
        rw [this, e7] at h; cases h
    · refine start (i + 1) h ?_
      rw [show ((i + 1 : Nat) : Int) - 1 = (i : Int) by omega]
      simpa using h'
theorem cov_one {ts : List ApiTok} (hb : Toks ts) {x y : Int × ByteArray} {i : Nat} (hx : x ∈ words ts) (hy : y ∈ words ts) (cx : Cov x i) (cy : Cov y i) : x = y := by
  obtain ⟨n, k, e1, e2, e3, e4, e5, e6, e7, e8, _⟩ := word_facts hb hx
  obtain ⟨n', k', f1, f2, f3, f4, f5, f6, f7, f8, _⟩ := word_facts hb hy
  unfold Cov at cx cy
  have : n = n' := by
    rcases Nat.lt_trichotomy n n' with h | h | h
    · have := e5 (n' - 1) (by omega) (by omega)
      rw [show (n' : Int) - 1 = ((n' - 1 : Nat) : Int) by omega] at f6
      rw [f6] at this; cases this
    · exact h
    · have := f5 (n - 1) (by omega) (by omega)
      rw [show (n : Int) - 1 = ((n - 1 : Nat) : Int) by omega] at e6
      rw [e6] at this; cases this
  subst this
  exact Prod.ext (by omega) (by rw [e8, f8])
theorem atW_pw (ts : List ApiTok) (w : ByteArray) : (atW ts w).Pairwise (· < ·) := by
  unfold atW
  refine List.Pairwise.map _ (fun a b h => h) (List.Pairwise.filter _ ?_)
  rw [words_starts]
  exact starts_pw _ _ _
theorem mem_atW {ts : List ApiTok} {w : ByteArray} {v : Int} : v ∈ atW ts w ↔ ∃ x ∈ words ts, lowS x.2 = lowS w ∧ x.1 = v := by
  unfold atW
  rw [List.mem_map]
  constructor
  · rintro ⟨x, hx, e⟩
    have := List.mem_filter.1 hx
    exact ⟨x, this.1, by simpa [hit] using this.2, e⟩
  · rintro ⟨x, hx, e1, e2⟩
    exact ⟨x, List.mem_filter.2 ⟨hx, by simpa [hit] using e1⟩, e2⟩
theorem lowS_ints (s : ByteArray) : strInts (lowS s) = (strInts s).map low := by
  unfold lowS
  rw [strInts_ofBytes]
  intro c hc
  obtain ⟨d, hd, rfl⟩ := List.mem_map.1 hc
  exact low_byte (strInts_byte hd)
theorem uppS_ints (s : ByteArray) : strInts (uppS s) = (strInts s).map upp := by
  unfold uppS
  rw [strInts_ofBytes]
  intro c hc
  obtain ⟨d, hd, rfl⟩ := List.mem_map.1 hc
  exact upp_byte (strInts_byte hd)
theorem low_low (c : Int) : low (low c) = low c := by
  by_cases h : 65 ≤ c ∧ c ≤ 90
  · have e : low c = c + 32 := if_pos h
    rw [e]; exact if_neg (by omega)
  · have e : low c = c := if_neg h
    rw [e]; exact e
theorem low_upp (c : Int) : low (upp c) = low c := by
  by_cases h : 97 ≤ c ∧ c ≤ 122
  · have e : upp c = c - 32 := if_pos h
    have e2 : low c = c := if_neg (by omega)
    have e3 : low (c - 32) = c - 32 + 32 := if_pos (by omega)
    rw [e, e2, e3]; omega
  · have e : upp c = c := if_neg h
    rw [e]
theorem lowS_lowS (s : ByteArray) : lowS (lowS s) = lowS s := by
  refine strInts_inj ?_
  rw [lowS_ints, lowS_ints, List.map_map]
  exact List.map_congr_left fun c _ => low_low c
theorem lowS_uppS (s : ByteArray) : lowS (uppS s) = lowS s := by
  refine strInts_inj ?_
  rw [lowS_ints, lowS_ints, uppS_ints, List.map_map]
  exact List.map_congr_left fun c _ => low_upp c
theorem lowS_size (s : ByteArray) : (lowS s).size = s.size := by unfold lowS; rw [ofBytes_size, List.length_map, strInts_length]
theorem uppS_size (s : ByteArray) : (uppS s).size = s.size := by unfold uppS; rw [ofBytes_size, List.length_map, strInts_length]
theorem byte_ints (s : ByteArray) {n : Nat} (h : n < s.size) : (strInts s)[n]? = some ((s.data.toList[n]'h).toNat : Int) := by simp [strInts, size_list, h]

/-! ### marks -/
def Marked (ts : List ApiTok) (D : Nat → Prop) (M : List Int) : Prop := M.length = ts.length ∧ ∀ i : Nat, (letAt ts (i : Int) = false → M.getD i 0 = 0) ∧ (letAt ts (i : Int) = true → (D i → M.getD i 0 = 2) ∧ (¬ D i → M.getD i 0 = 1))
theorem Marked.congr {ts : List ApiTok} {D D' : Nat → Prop} {M : List Int} (h : Marked ts D M) (e : ∀ i : Nat, letAt ts (i : Int) = true → (D i ↔ D' i)) : Marked ts D' M :=
  ⟨h.1, fun i => ⟨(h.2 i).1, fun hl => ⟨fun hd => ((h.2 i).2 hl).1 ((e i hl).2 hd), fun hd => ((h.2 i).2 hl).2 fun hd' => hd ((e i hl).1 hd')⟩⟩⟩
theorem Marked.set {ts : List ApiTok} {D : Nat → Prop} {M : List Int} (h : Marked ts D M) {m : Nat} (hm : m < ts.length) (hl : letAt ts (m : Int) = true) : Marked ts (fun i => D i ∨ i = m) (M.set m 2) := by
  refine ⟨by rw [List.length_set]; exact h.1, fun i => ?_⟩
  have hlen : m < M.length := by rw [h.1]; exact hm
  by_cases e : m = i
  · subst e
    rw [hl]
    simp [List.getD, hlen]
  · have : (M.set m 2).getD i 0 = M.getD i 0 := by simp [List.getD, e]
    rw [this]
    refine ⟨(h.2 i).1, fun hl' => ⟨fun hd => ((h.2 i).2 hl').1 (hd.resolve_right fun e' => e e'.symm), fun hd => ((h.2 i).2 hl').2 fun hd' => hd (Or.inl hd')⟩⟩
theorem aft {ts : List ApiTok} (hb : Toks ts) {e : Int} (he : 0 ≤ e) (h : letAt ts e = false) {F K : Prop} (hK : K) :
    if e < (ts.length : Int) then (0 ≤ e) ∧ ∃ v15 : ApiTok, ts[e.toNat]? = some v15 ∧ if v15.Kind = 1 then chars_Letter.w v15.Ch (fun r14 => if r14 = true then F else K) else K else K := by
  obtain ⟨n, rfl⟩ := Int.eq_ofNat_of_zero_le he
  split
  · rename_i h1
    have hn : n < ts.length := by omega
    refine ⟨he, ts[n], get_some ts hn, ?_⟩
    rw [letAt_nat ts hn] at h
    unfold tl at h
    split
    · rename_i e
      refine Letter_w (hb _ (List.getElem_mem hn)) ?_
      rw [if_neg (by simpa [e] using h)]; exact hK
    · exact hK
  · exact hK
theorem bef {ts : List ApiTok} (hb : Toks ts) {v : Int} (hv : v < ts.length) (h9 : ts.length ≤ 1000000) (h : letAt ts (v - 1) = false) {F K : Prop} (hK : K) :
    if 0 < v then (I64 (v - 1)) ∧ (0 ≤ v - 1) ∧ ∃ v13 : ApiTok, ts[(v - 1).toNat]? = some v13 ∧ if v13.Kind = 1 then (I64 (v - 1)) ∧ chars_Letter.w v13.Ch (fun r13 => if r13 = true then F else K) else K else K := by
  split
  · rename_i h1
    obtain ⟨n, e⟩ := Int.eq_ofNat_of_zero_le (show 0 ≤ v - 1 by omega)
    rw [e] at h ⊢
    have hn : n < ts.length := by omega
    refine ⟨i64_lt (by omega) (by omega), by omega, ts[n], get_some ts hn, ?_⟩
    rw [letAt_nat ts hn] at h
    unfold tl at h
    split
    · rename_i e
      refine ⟨i64_lt (by omega) (by omega), Letter_w (hb _ (List.getElem_mem hn)) ?_⟩
      rw [if_neg (by simpa [e] using h)]; exact hK
    · exact hK
  · exact hK

theorem ite_intro {p : Prop} [Decidable p] {A B : Prop} (h : p → A) (h' : ¬ p → B) : if p then A else B := by
  by_cases c : p
  · rw [if_pos c]; exact h c
  · rw [if_neg c]; exact h' c
theorem SeekAll_w (ts : List ApiTok) (hb : Toks ts) : styluslaw33_SeekAll.w ts (fun b => b = true) := by
  unfold styluslaw33_SeekAll.w
  refine ite_intro (fun _ => awake_w rfl) fun h0 => ?_
  have hl : ts.length ≤ 300 := by omega
  have hn9 : ts.length ≤ 1000000 := by omega
  refine ⟨⟨by omega, by omega, by omega⟩, ?_⟩
  have gd : ∀ (l : List Int) (n : Nat), n < l.length → l[(n : Int).toNat]? = some (l.getD n 0) := by
    intro l n h; rw [Int.toNat_natCast]; exact getD_some h
  refine wfor (fun s => s.2) (fun n => ((ts.take n).map (fun t => if tl t = true then (1 : Int) else 0) ++ List.replicate (ts.length - n) 0, (n : Int))) ts.length (fun _ => True) (fun _ _ => rfl) (by simp) trivial ?_ ?_
  · intro n hn _ K hK
    try dsimp only
    unfold wcut
    rw [if_pos (by omega)]
    dsimp only
    have hK := hK trivial
    have e : (ts.take (n + 1)) = ts.take n ++ [ts[n]] := by rw [List.take_add_one]; simp [hn]
    have er : List.replicate (ts.length - n) (0 : Int) = 0 :: List.replicate (ts.length - (n + 1)) 0 := by
      rw [show ts.length - n = (ts.length - (n + 1)) + 1 by omega, List.replicate_succ]
    rw [e, List.map_append, List.append_assoc] at hK
    have hlen : ((ts.take n).map (fun t => if tl t = true then (1 : Int) else 0)).length = n := by simp; omega
    have fin : ∀ b : Bool, b = tl ts[n] → if b = true then (0 ≤ (n : Int)) ∧ ∃ v3 : Int, ((ts.take n).map (fun t => if tl t = true then (1 : Int) else 0) ++ List.replicate (ts.length - n) 0)[(n : Int).toNat]? = some v3 ∧ I64 ((n : Int) + 1) ∧ K (((ts.take n).map (fun t => if tl t = true then (1 : Int) else 0) ++ List.replicate (ts.length - n) 0).set (n : Int).toNat 1, (n : Int) + 1)
        else I64 ((n : Int) + 1) ∧ K ((ts.take n).map (fun t => if tl t = true then (1 : Int) else 0) ++ List.replicate (ts.length - n) 0, (n : Int) + 1) := by
      intro b hbt
      split
      · rename_i eb
        rw [eb] at hbt
        refine ⟨by omega, 0, ?_, i64_lt (by omega) (by omega), ?_⟩
        · rw [Int.toNat_natCast, List.getElem?_append, if_neg (by omega), hlen, er]; simp
        · rw [Int.toNat_natCast, List.set_append, if_neg (by omega), hlen, er, Nat.sub_self, List.set_cons_zero]
          simpa [← hbt] using hK
      · rename_i eb
        have eb : b = false := by simpa using eb
        rw [eb] at hbt
        refine ⟨i64_lt (by omega) (by omega), ?_⟩
        rw [er]
        simpa [← hbt] using hK
    refine ⟨by omega, ts[n], get_some ts hn, ?_⟩
    split
    · rename_i ek
      exact Letter_w (hb _ (List.getElem_mem hn)) (fin _ (by simp [tl, ek]))
    · rename_i ek
      exact fin false (by simp [tl, ek])
  intro _ K
  try dsimp only
  rw [if_neg (by omega)]
  have hM0 : Marked ts (fun _ => False) ((ts.take ts.length).map (fun t => if tl t = true then (1 : Int) else 0) ++ List.replicate (ts.length - ts.length) 0) := by
    rw [List.take_length, Nat.sub_self, List.replicate_zero, List.append_nil]
    refine ⟨List.length_map _, fun i => ⟨fun h => ?_, fun h => ⟨False.elim, fun _ => ?_⟩⟩⟩
    · rcases Nat.lt_or_ge i ts.length with h1 | h1
      · rw [letAt_nat ts h1] at h
        simp [List.getD, h1, h]
      · simp [List.getD, h1]
    · obtain ⟨hi, ht⟩ := letAt_lt h
      simp [List.getD, hi, ht]
  generalize (ts.take ts.length).map (fun t => if tl t = true then (1 : Int) else 0) ++ List.replicate (ts.length - ts.length) 0 = M0 at hM0 ⊢
  refine Index_w ts hb hn9 fun r3 hix hr3 => ?_
  -- words of the index
  have D1 : ∃ D1 : Nat → Nat → Prop, ∀ n i, D1 n i ↔ ∃ x ∈ words ts, Cov x i ∧ lowS x.2 ∈ r3.take n := ⟨_, fun _ _ => Iff.rfl⟩
  obtain ⟨D1, hD1⟩ := D1
  refine ⟨fun s => ∃ n, n ≤ r3.length ∧ s.2 = (n : Int) ∧ Marked ts (D1 n) s.1, fun s => (r3.length - s.2).toNat, ⟨0, by omega, rfl, hM0.congr fun i _ => by rw [hD1]; simp⟩, ?_⟩
  rintro ⟨M, a6⟩ ⟨n, hn, e1, hM⟩
  dsimp only at e1 hM ⊢
  subst e1
  by_cases hlt : n < r3.length
  rotate_left
  · -- the end
    rw [if_neg (by omega)]
    refine wfor (fun s => s.2) (fun n => (M, (n : Int))) M.length (fun _ => True) (fun _ _ => rfl) rfl trivial ?_ ?_
    · intro j hj _ K hK
      try dsimp only
      rw [if_pos (by omega)]
      refine ⟨by omega, M.getD j 0, gd M j hj, ?_⟩
      have hjt : j < ts.length := by have := hM.1; omega
      rw [if_neg]
      · exact ⟨i64_lt (by omega) (by omega), by have := hK trivial; exact_mod_cast this⟩
      · intro e
        have hj2 := hM.2 j
        by_cases el : letAt ts (j : Int) = true
        · have := (hj2.2 el).1 (by
            rw [hD1]
            obtain ⟨x, hx, c⟩ := cov_some hb j el
            exact ⟨x, hx, c, by rw [List.take_of_length_le (by omega), hix.2]; exact ⟨x, hx, rfl⟩⟩)
          omega
        · have := hj2.1 (by simpa using el)
          omega
    · intro _ K
      try dsimp only
      rw [if_neg (by omega)]; exact awake_w rfl
  rw [if_pos (by omega)]
  have hv4 := (hix.2 r3[n]).1 (List.getElem_mem hlt)
  have hprev : ∀ j (hj : j < n), bl (r3[j]'(by omega)) r3[n] := fun j hj => List.pairwise_iff_getElem.1 hix.1 j n (by omega) hlt hj
  refine ⟨by omega, r3[n], get_some r3 hlt, ?_⟩
  have hnot : r3[n] ∉ r3.take n := by
    intro hin
    obtain ⟨j, hj, e⟩ := List.getElem_of_mem hin
    rw [List.getElem_take] at e
    rw [List.length_take] at hj
    have := hprev j (by omega)
    rw [e] at this; exact bl_irrefl _ this
  have hD1s : ∀ i, D1 (n + 1) i ↔ D1 n i ∨ ∃ x ∈ words ts, Cov x i ∧ lowS x.2 = r3[n] := by
    intro i
    rw [hD1, hD1, List.take_add_one, List.getElem?_eq_getElem hlt]
    simp only [Option.toList_some, List.mem_append, List.mem_singleton]
    constructor
    · rintro ⟨x, hx, c, h | h⟩
      · exact Or.inl ⟨x, hx, c, h⟩
      · exact Or.inr ⟨x, hx, c, h⟩
    · rintro (⟨x, hx, c, h⟩ | ⟨x, hx, c, h⟩)
      · exact ⟨x, hx, c, Or.inl h⟩
      · exact ⟨x, hx, c, Or.inr h⟩
  have hless : ∀ h0 : 0 < n, r3[((n : Int) - 1).toNat]? = some (r3[n - 1]'(by omega)) ∧ bl (r3[n - 1]'(by omega)) r3[n] := by
    intro h0
    rw [show ((n : Int) - 1).toNat = n - 1 by omega]
    exact ⟨List.getElem?_eq_getElem _, hprev (n - 1) (by omega)⟩
  generalize r3[n] = v4 at hv4 hnot hD1s hless ⊢
  obtain ⟨x0, hx0, ex0⟩ := hv4
  have hlow : lowS v4 = v4 := by rw [← ex0, lowS_lowS]
  have hsz : v4.size = x0.2.size := by rw [← ex0, lowS_size]
  obtain ⟨_, k, _, k2, k3, k4, _⟩ := word_facts hb hx0
  have hk : v4.size = k := by omega
  have hat := atW_length ts v4
  have hpw := atW_pw ts v4
  have hmem : ∀ v, v ∈ atW ts v4 ↔ ∃ x ∈ words ts, lowS x.2 = v4 ∧ x.1 = v := fun v => by rw [mem_atW, hlow]
  refine At_w ts hb hn9 v4 (by omega) ?_
  unfold wcut
  dsimp only
  rw [if_neg (by intro e; rw [e] at hk; have : (ByteArray.mk #[]).size = 0 := rfl; omega)]
  refine Low_w v4 (by unfold big; omega) ?_
  rw [if_pos hlow]
  have hne : ¬ ((atW ts v4).length : Int) = 0 := by
    intro e
    have := (hmem x0.1).2 ⟨x0, hx0, ex0, rfl⟩
    rw [List.length_eq_zero_iff.1 (show (atW ts v4).length = 0 by omega)] at this
    simp at this
  -- its places
  have main : wloop (σ := (List Int) × Int) (fun s next3 =>
                    if s.2 < ((atW ts v4).length : Int) then
                        (0 ≤ s.2) ∧
                        ∃ v6 : Int, (atW ts v4)[s.2.toNat]? = some v6 ∧
                        (I64 (v6 + (v4.size : Int))) ∧
                        (fun (k5 : Unit → Prop) =>
                          if v6 < 0 then
                            false = true
                          else
                            if (ts.length : Int) < v6 + (v4.size : Int) then
                              false = true
                            else
                              if 0 < s.2 then
                                (I64 (s.2 - 1)) ∧
                                (0 ≤ s.2 - 1) ∧
                                ∃ v8 : Int, (atW ts v4)[(s.2 - 1).toNat]? = some v8 ∧
                                if v6 ≤ v8 then
                                  false = true
                                else
                                  k5 ()
                              else
                                k5 ()) (fun _ =>
                          wloop (σ := (List Int) × Int) (fun s4 next4 =>
                            if s4.2 < v6 + (v4.size : Int) then
                              (0 ≤ s4.2) ∧
                              ∃ v9 : Int, s4.1[s4.2.toNat]? = some v9 ∧
                              if v9 = 1 then
                                ∃ v10 : ApiTok, ts[s4.2.toNat]? = some v10 ∧
                                ∃ r12 : Int, chars_Lower.w v10.Ch (fun r' => r' = r12) ∧
                                (I64 (s4.2 - v6)) ∧
                                (0 ≤ s4.2 - v6) ∧
                                ∃ v11 : UInt8, v4[(s4.2 - v6).toNat]? = some v11 ∧
                                if r12 = (v11.toNat : Int) then
                                  (I64 (s4.2 + 1)) ∧
                                  next4 (s4.1.set s4.2.toNat 2, s4.2 + 1)
                                else
                                  false = true
                              else
                                false = true
                            else
                              if 0 < v6 then
                                (I64 (v6 - 1)) ∧
                                (0 ≤ v6 - 1) ∧
                                ∃ v13 : ApiTok, ts[(v6 - 1).toNat]? = some v13 ∧
                                if v13.Kind = 1 then
                                  (I64 (v6 - 1)) ∧
                                  chars_Letter.w v13.Ch (fun r13 =>
                                    if r13 = true then
                                      false = true
                                    else
                                      if v6 + (v4.size : Int) < (ts.length : Int) then
                                        (0 ≤ v6 + (v4.size : Int)) ∧
                                        ∃ v15 : ApiTok, ts[(v6 + (v4.size : Int)).toNat]? = some v15 ∧
                                        if v15.Kind = 1 then
                                          chars_Letter.w v15.Ch (fun r14 =>
                                            if r14 = true then
                                              false = true
                                            else
                                              I64 (s.2 + 1) ∧ next3 (s4.1, s.2 + 1))
                                        else
                                          I64 (s.2 + 1) ∧ next3 (s4.1, s.2 + 1)
                                      else
                                        I64 (s.2 + 1) ∧ next3 (s4.1, s.2 + 1))
                                else
                                  if v6 + (v4.size : Int) < (ts.length : Int) then
                                    (0 ≤ v6 + (v4.size : Int)) ∧
                                    ∃ v17 : ApiTok, ts[(v6 + (v4.size : Int)).toNat]? = some v17 ∧
                                    if v17.Kind = 1 then
                                      chars_Letter.w v17.Ch (fun r15 =>
                                        if r15 = true then
                                          false = true
                                        else
                                          I64 (s.2 + 1) ∧ next3 (s4.1, s.2 + 1))
                                    else
                                      I64 (s.2 + 1) ∧ next3 (s4.1, s.2 + 1)
                                  else
                                    I64 (s.2 + 1) ∧ next3 (s4.1, s.2 + 1)
                              else
                                if v6 + (v4.size : Int) < (ts.length : Int) then
                                  (0 ≤ v6 + (v4.size : Int)) ∧
                                  ∃ v19 : ApiTok, ts[(v6 + (v4.size : Int)).toNat]? = some v19 ∧
                                  if v19.Kind = 1 then
                                    chars_Letter.w v19.Ch (fun r16 =>
                                      if r16 = true then
                                        false = true
                                      else
                                        I64 (s.2 + 1) ∧ next3 (s4.1, s.2 + 1))
                                  else
                                    I64 (s.2 + 1) ∧ next3 (s4.1, s.2 + 1)
                                else
                                  I64 (s.2 + 1) ∧ next3 (s4.1, s.2 + 1)) (s.1, v6))
                    else
                      (I64 ((n : Int) + 1)) ∧
                      ((∃ n_1, n_1 ≤ r3.length ∧ (n : Int) + 1 = (n_1 : Int) ∧ Marked ts (D1 n_1) s.1) ∧ ((r3.length : Int) - ((n : Int) + 1)).toNat < ((r3.length : Int) - (n : Int)).toNat)) (M, 0) := by
    have D2 : ∃ D2 : Nat → Nat → Prop, ∀ m i, D2 m i ↔ D1 n i ∨ ∃ x ∈ words ts, Cov x i ∧ lowS x.2 = v4 ∧ x.1 ∈ (atW ts v4).take m := ⟨_, fun _ _ => Iff.rfl⟩
    obtain ⟨D2, hD2⟩ := D2
    refine ⟨fun s => ∃ m, m ≤ (atW ts v4).length ∧ s.2 = (m : Int) ∧ Marked ts (D2 m) s.1, fun s => ((atW ts v4).length - s.2).toNat, ⟨0, by omega, rfl, hM.congr fun i _ => by rw [hD2]; simp⟩, ?_⟩
    rintro ⟨M2, a8⟩ ⟨m, hm, e1, hM2⟩
    dsimp only at e1 hM2 ⊢
    subst e1
    by_cases hmlt : m < (atW ts v4).length
    rotate_left
    · rw [if_neg (by omega)]
      refine ⟨i64_lt (by omega) (by omega), ⟨n + 1, by omega, by omega, hM2.congr fun i _ => ?_⟩, by omega⟩
      rw [hD2, hD1s, List.take_of_length_le (by omega)]
      constructor
      · rintro (h | ⟨x, hx, c, e, _⟩)
        · exact Or.inl h
        · exact Or.inr ⟨x, hx, c, e⟩
      · rintro (h | ⟨x, hx, c, e⟩)
        · exact Or.inl h
        · exact Or.inr ⟨x, hx, c, e, (hmem _).2 ⟨x, hx, e, rfl⟩⟩
    rw [if_pos (by omega)]
    obtain ⟨x, hx, ex, ep⟩ := (hmem _).1 (List.getElem_mem hmlt)
    have hlt' : ∀ j (hj : j < m), (atW ts v4)[j]'(by omega) < (atW ts v4)[m] := fun j hj => List.pairwise_iff_getElem.1 hpw j m (by omega) hmlt hj
    refine ⟨by omega, (atW ts v4)[m], get_some _ hmlt, ?_⟩
    obtain ⟨p, k', f1, f2, f3, f4, f5, f6, f7, f8, f9⟩ := word_facts hb hx
    have hk' : v4.size = k' := by rw [← ex, lowS_size]; exact f2
    have hpx : (atW ts v4)[m] = (p : Int) := by rw [← ep, f1]
    have hnew : ∀ i, D2 (m + 1) i ↔ D2 m i ∨ (p ≤ i ∧ i < p + k') := by
      intro i
      rw [hD2, hD2, List.take_add_one, List.getElem?_eq_getElem hmlt]
      simp only [Option.toList_some, List.mem_append, List.mem_singleton]
      constructor
      · rintro (h | ⟨y, hy, c, e, h | h⟩)
        · exact Or.inl (Or.inl h)
        · exact Or.inl (Or.inr ⟨y, hy, c, e, h⟩)
        · refine Or.inr ?_
          have hs : y.2.size = k' := by rw [← lowS_size, e]; exact hk'
          unfold Cov at c
          omega
      · rintro ((h | ⟨y, hy, c, e, h⟩) | h)
        · exact Or.inl h
        · exact Or.inr ⟨y, hy, c, e, Or.inl h⟩
        · refine Or.inr ⟨x, hx, ?_, ex, Or.inr (by omega)⟩
          unfold Cov; omega
    have hold : ∀ i, p ≤ i → i < p + k' → ¬ D2 m i := by
      intro i h1 h2
      rw [hD2, hD1]
      have cx : Cov x i := by unfold Cov; omega
      rintro (⟨y, hy, c, h⟩ | ⟨y, hy, c, e, h⟩)
      · have := cov_one hb hx hy cx c
        subst this
        rw [ex] at h; exact hnot h
      · have := cov_one hb hx hy cx c
        subst this
        obtain ⟨j, hj, e⟩ := List.getElem_of_mem h
        rw [List.getElem_take] at e
        rw [List.length_take] at hj
        have := hlt' j (by omega)
        omega
    refine ⟨i64_lt (by omega) (by omega), ?_⟩
    rw [if_neg (by omega), if_neg (by omega)]
    have pre : ∀ {F K : Prop}, K → (if 0 < (m : Int) then (I64 ((m : Int) - 1)) ∧ (0 ≤ (m : Int) - 1) ∧ ∃ v8 : Int, (atW ts v4)[((m : Int) - 1).toNat]? = some v8 ∧ if (atW ts v4)[m] ≤ v8 then F else K else K) := by
      intro F K hK
      refine ite_intro (fun hm0 => ?_) fun _ => hK
      refine ⟨i64_lt (by omega) (by omega), by omega, (atW ts v4)[m - 1]'(by omega), ?_, ?_⟩
      · rw [show ((m : Int) - 1).toNat = m - 1 by omega]; exact List.getElem?_eq_getElem _
      · rw [if_neg (by have := hlt' (m - 1) (by omega); omega)]
        exact hK
    refine pre ?_
    rw [hpx]
    refine ⟨fun s => ∃ j, j ≤ k' ∧ s.2 = (p : Int) + (j : Int) ∧ Marked ts (fun i => D2 m i ∨ (p ≤ i ∧ i < p + j)) s.1, fun s => (p + k' - s.2).toNat, ⟨0, by omega, by simp, hM2.congr fun i _ => ⟨Or.inl, fun h => h.elim id fun h => by omega⟩⟩, ?_⟩
    rintro ⟨M4, a11⟩ ⟨j, hj, e1, hM4⟩
    dsimp only at e1 hM4 ⊢
    subst e1
    rw [hk']
    by_cases hjlt : j < k'
    · rw [if_pos (by omega)]
      have hpj : p + j < ts.length := by omega
      have hlj := f5 (p + j) (by omega) (by omega)
      have eq : (p : Int) + (j : Int) = ((p + j : Nat) : Int) := by push_cast; rfl
      have hM1 : M4.getD (p + j) 0 = 1 := ((hM4.2 (p + j)).2 hlj).2 (by
        rintro (h | h)
        · exact hold _ (by omega) (by omega) h
        · omega)
      refine ⟨by omega, M4.getD (p + j) 0, by rw [eq]; exact gd M4 _ (by rw [hM4.1]; exact hpj), ?_⟩
      rw [if_pos hM1]
      refine ⟨ts[p + j], by rw [eq]; exact get_some ts hpj, low ts[p + j].Ch, Lower_w (hb _ (List.getElem_mem hpj)) rfl, i64_lt (by omega) (by omega), by omega, ?_⟩
      rw [show (p : Int) + (j : Int) - (p : Int) = (j : Int) by omega]
      refine ⟨_, bget v4 (by omega), ?_⟩
      have hch : ((v4.data.toList[j]'(by have := size_list v4; omega)).toNat : Int) = low ts[p + j].Ch := by
        have h1 := byte_ints v4 (n := j) (by omega)
        have h2 := f9 j hjlt
        have h3 : strInts v4 = (strInts x.2).map low := by rw [← lowS_ints, ex]
        rw [h3, List.getElem?_map, h2, List.getElem?_eq_getElem hpj] at h1
        exact (Option.some.inj h1).symm
      rw [if_pos hch.symm]
      refine ⟨i64_lt (by omega) (by omega), ⟨j + 1, by omega, by push_cast; omega, ?_⟩, by omega⟩
      rw [eq, Int.toNat_natCast]
      exact (hM4.set hpj hlj).congr fun i _ => ⟨fun h => by rcases h with (h | h) | h <;> first | exact Or.inl h | (right; omega), fun h => by
        rcases h with h | h
        · exact Or.inl (Or.inl h)
        · by_cases e : i = p + j
          · exact Or.inr e
          · exact Or.inl (Or.inr (by omega))⟩
    · rw [if_neg (by omega)]
      have hjk : j = k' := by omega
      subst hjk
      have aft' := @aft ts hb ((p : Int) + (j : Int)) (by omega) f7
      refine bef hb (by omega) hn9 f6 ?_
      refine aft' ⟨i64_lt (by omega) (by omega), ⟨m + 1, by omega, by omega, hM4.congr fun i _ => (hnew i).symm⟩, by omega⟩
  have rest : ∀ {F K : Prop}, K → (if ((atW ts v4).length : Int) = 0 then F else styluslaw33_upper.w v4 (fun r9 => seek_At.w ts r9 (fun r10 => styluslaw33_row.w (atW ts v4) r10 (fun r11 => if (!r11) = true then F else K)))) := by
    intro F K hK
    rw [if_neg hne]
    refine upper_w v4 (by omega) (At_w ts hb hn9 _ (by rw [uppS_size]; omega) ?_)
    have e : atW ts (uppS v4) = atW ts v4 := by unfold atW hit; rw [lowS_uppS]
    rw [e]
    refine row_w _ (by unfold big; omega) ?_
    rw [if_neg (by simp)]
    exact hK
  refine ite_intro (fun h1 => ?_) fun _ => rest main
  obtain ⟨g1, g2⟩ := hless (by omega)
  refine ⟨i64_lt (by omega) (by omega), by omega, _, g1, ?_⟩
  rw [if_neg (by simpa using (bl_op _ _).2 g2)]
  exact rest main
end Go.Proofs.Ytnenodamppageaa
