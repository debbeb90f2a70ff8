/- What the walk of PatchDoes asks for: owned things joined, lent deep, cleared. -/
import Derived.Test.YtlnjajfagildnaaDoorPdp
namespace Go.Proofs.YtlnjajfagildnaaDoor.AM
open Go
set_option linter.unusedVariables false
set_option linter.unusedSimpArgs false

theorem Own.join {h0 h h1 h' : Hp} {its its' : List Itm} (H : Own h0 h its) (hs : h.sub h1) (H1 : Own h1 h' its') : ∃ hb, Own hb h' (its ++ its') ∧ h0.sub hb ∧ ∀ b o, h b = none → h1 b = some o → hb b = some o := by
  obtain ⟨s0, f, a1, a2, a3⟩ := H
  obtain ⟨s1, f', b1, b2, b3⟩ := H1
  let hb : Hp := { c := fun b => if (h0 b).isSome then h0 b else if (h b).isSome then none else h1 b, r := h1.r }
  have hbc : ∀ b, hb b = if (h0 b).isSome then h0 b else if (h b).isSome then none else h1 b := fun b => rfl
  have of0 : ∀ j it b, its[j]? = some it → f j = some b → it.blk b ∧ it.held (h b) ∧ h0 b = none := fun j it b hj hf => by
    have := a1 j it hj; rw [hf] at this; exact this
  have of1 : ∀ j it b, its'[j]? = some it → f' j = some b → it.blk b ∧ it.held (h' b) ∧ h1 b = none := fun j it b hj hf => by
    have := b1 j it hj; rw [hf] at this; exact this
  have lt0 : ∀ j b, f j = some b → ∃ it, its[j]? = some it := fun j b hf => by
    rcases Nat.lt_or_ge j its.length with hl | hl
    · exact ⟨_, List.getElem?_eq_getElem hl⟩
    · rw [a2 j hl] at hf; cases hf
  have lt1 : ∀ j b, f' j = some b → ∃ it, its'[j]? = some it := fun j b hf => by
    rcases Nat.lt_or_ge j its'.length with hl | hl
    · exact ⟨_, List.getElem?_eq_getElem hl⟩
    · rw [b2 j hl] at hf; cases hf
  have some0 : ∀ j b, f j = some b → ∃ o, h b = some o := fun j b hf => by
    obtain ⟨it, hj⟩ := lt0 j b hf
    obtain ⟨_, ⟨tl, e, _⟩, _⟩ := of0 j it b hj hf
    exact ⟨_, e⟩
  have none1 : ∀ j b, f' j = some b → h1 b = none := fun j b hf => by
    obtain ⟨it, hj⟩ := lt1 j b hf
    exact (of1 j it b hj hf).2.2
  refine ⟨hb, ⟨⟨fun b o hb' => ?_, fun b o hb' => s1.r b o hb'⟩, fun j => if j < its.length then f j else f' (j - its.length), ?_, ?_, ?_⟩, ⟨fun b o hb' => ?_, fun b o hb' => hs.r b o (s0.r b o hb')⟩, ?_⟩
  · rw [hbc] at hb'
    split at hb'
    · exact s1.c b o (hs.c b o (s0.c b o hb'))
    · split at hb'
      · cases hb'
      · exact s1.c b o hb'
  · intro j it hj
    rw [List.getElem?_append] at hj
    dsimp only
    by_cases hl : j < its.length
    · rw [if_pos hl] at hj ⊢
      have := a1 j it hj
      cases hf : f j with
      | none => rw [hf] at this; exact this
      | some b =>
        rw [hf] at this
        obtain ⟨c1, ⟨tl, c2, c3⟩, c4⟩ := this
        refine ⟨c1, ⟨tl, s1.c b _ (hs.c b _ c2), c3⟩, ?_⟩
        rw [hbc, c4, c2]; simp
    · rw [if_neg hl] at hj ⊢
      have := b1 _ it hj
      cases hf : f' (j - its.length) with
      | none => rw [hf] at this; exact this
      | some b =>
        rw [hf] at this
        obtain ⟨c1, c2, c4⟩ := this
        refine ⟨c1, c2, ?_⟩
        have hn : h b = none := by
          cases e : h b with
          | none => rfl
          | some o => rw [hs.c b o e] at c4; cases c4
        have hn0 : h0 b = none := by
          cases e : h0 b with
          | none => rfl
          | some o => rw [s0.c b o e] at hn; cases hn
        rw [hbc, hn0, hn, c4]; simp
  · intro j hj
    rw [List.length_append] at hj
    show (if j < its.length then f j else f' (j - its.length)) = none
    rw [if_neg (by omega)]
    exact b2 _ (by omega)
  · intro i j b hi hj
    have hi : (if i < its.length then f i else f' (i - its.length)) = some b := hi
    have hj : (if j < its.length then f j else f' (j - its.length)) = some b := hj
    have cross : ∀ i j, f i = some b → f' j = some b → False := fun i j hi hj => by
      obtain ⟨o, e⟩ := some0 i b hi
      have := none1 j b hj
      rw [hs.c b o e] at this; cases this
    split at hi <;> split at hj
    · exact a3 i j b hi hj
    · exact (cross _ _ hi hj).elim
    · exact (cross _ _ hj hi).elim
    · have := b3 _ _ b hi hj; omega
  · rw [hbc, hb']; simp
  · intro b o hn h1b
    have hn0 : h0 b = none := by
      cases e : h0 b with
      | none => rfl
      | some o => rw [s0.c b o e] at hn; cases hn
    rw [hbc, hn0, hn]; simpa using h1b

/-- what lies under things that are owned may change -/
theorem Own.under {h0 h : Hp} {its : List Itm} (H : Own h0 h its) {b : Nat} {o : Ob} (hb : h0 b = some o) (o' : Ob) : Own (h0.upd b o') (h.upd b o') its := by
  obtain ⟨s0, f, a1, a2, a3⟩ := H
  refine ⟨⟨fun k y hk => ?_, fun k y hk => s0.r k y hk⟩, f, fun j it hj => ?_, a2, a3⟩
  · by_cases e : k = b
    · subst e; simp only [Hp.upd_same] at hk ⊢; exact hk
    · rw [Hp.upd_ne _ _ e] at hk ⊢; exact s0.c k y hk
  · have := a1 j it hj
    cases hf : f j with
    | none => rw [hf] at this; exact this
    | some k =>
      rw [hf] at this
      obtain ⟨c1, c2, c3⟩ := this
      have e : k ≠ b := by rintro rfl; rw [c3] at hb; cases hb
      exact ⟨c1, by rw [Hp.upd_ne _ _ e]; exact c2, by rw [Hp.upd_ne _ _ e]; exact c3⟩

theorem Lent.oslR {h : Hp} {b sz len : Nat} {o : Ob} {rows' : List (List AV)} (hb : h b = some o) (hsz : o.sz = sz) (hle : len ≤ o.rows.length) (hl : rows'.length = len)
    (hr : ∀ (i : Nat) (r r' : List AV), o.rows[i]? = some r → rows'[i]? = some r' → r'.length = r.length ∧ ∀ (k : Nat) (x x' : AV), r[k]? = some x → r'[k]? = some x' → Lent h x x') : Lent h (.osl b sz 0 len) (.isl sz rows') := by
  intro g w v hh hv
  subst hsz
  obtain ⟨q1, c, e, ⟨fr, q2, qt⟩, q3, q4⟩ := hh.ob b o hb
  simp only [VR] at hv ⊢
  obtain ⟨a, cap, rfl, hcap, hs, hv⟩ := hv
  rw [hl]
  refine ⟨some a, cap, rfl, hcap, ?_⟩
  by_cases h0 : len = 0
  · left; subst h0; exact List.length_eq_zero_iff.1 hl
  · right
    rcases hv with hv | ⟨rfl, _⟩
    · omega
    · refine ⟨_, c, e, fr, rfl, rfl, by simp [Gh.all, hb, q2], ?_⟩
      simp only [Nat.zero_mul]
      refine RowsAt.of_get fun i r' hi => ?_
      have hi' : i < o.rows.length := by have := (List.getElem?_eq_some_iff.1 hi).1; omega
      obtain ⟨z1, z2⟩ := hr i _ r' (List.getElem?_eq_getElem hi') hi
      obtain ⟨y1, y2⟩ := q4.get (List.getElem?_eq_getElem hi')
      refine ⟨by omega, CellsAt.of_get fun k x' hx' => ?_⟩
      have hk : k < o.rows[i].length := by have := (List.getElem?_eq_some_iff.1 hx').1; omega
      obtain ⟨u, u1, u2, u3⟩ := y2.get (List.getElem?_eq_getElem hk)
      exact ⟨u, u1, u2, z2 k _ x' (List.getElem?_eq_getElem hk) hx' g w u hh u3⟩
theorem Lent.agg {h : Hp} {xs ys : List AV} (hl : ys.length = xs.length) (hr : ∀ (k : Nat) (x y : AV), xs[k]? = some x → ys[k]? = some y → Lent h x y) : Lent h (.agg xs) (.agg ys) := by
  intro g w v hh hv
  simp only [VR] at hv ⊢
  obtain ⟨vs, rfl, h1, h2⟩ := hv
  refine ⟨vs, rfl, CellsAt.of_get fun k y hy => ?_, by omega⟩
  have hk : k < xs.length := by have := (List.getElem?_eq_some_iff.1 hy).1; omega
  obtain ⟨u, u1, u2, u3⟩ := h1.get (List.getElem?_eq_getElem hk)
  exact ⟨u, u1, u2, hr k _ y (List.getElem?_eq_getElem hk) hy g w u hh u3⟩
theorem Hdl.lent {h0 h1 h : Hp} {lines : List ByteArray} {x : AV} (H : Hdl h0 h1 lines x) (hs : h1.sub h) : Lent h x (.isl 1 (lines.map AM.encStr)) := by
  rcases H with ⟨rfl, rfl⟩ | ⟨b, rows, ty, rfl, _, hb, hr⟩
  · exact Lent.refl h _
  · have hlen : lines.length ≤ rows.length := by
      have := congrArg List.length hr
      rw [List.length_take, List.length_map] at this; omega
    have := Lent.osl (h := h) (b := b) (sz := 1) (off := 0) (len := lines.length) (hs.c b _ hb) rfl (by simpa using hlen)
    simpa [hr] using this
/-- a handle, of which no more is known than how many there are -/
def Hg (h : Hp) (x : AV) : Prop := x = .isl 1 [] ∨ ∃ b rows ty n, x = .osl b 1 0 n ∧ h b = some ⟨1, rows, ty⟩ ∧ n ≤ rows.length
theorem Hdl.hg {h0 h1 h : Hp} {lines : List ByteArray} {x : AV} (H : Hdl h0 h1 lines x) (hs : ∀ b o, h0 b = none → h1 b = some o → h b = some o) : Hg h x := by
  rcases H with ⟨_, rfl⟩ | ⟨b, rows, ty, rfl, h0b, hb, hr⟩
  · exact Or.inl rfl
  · have hlen : lines.length ≤ rows.length := by
      have := congrArg List.length hr
      rw [List.length_take, List.length_map] at this; omega
    exact Or.inr ⟨b, rows, ty, lines.length, rfl, hs b _ h0b hb, hlen⟩
theorem Hg.sub {h h' : Hp} {x : AV} (H : Hg h x) (hs : h.sub h') : Hg h' x := by
  rcases H with h | ⟨b, rows, ty, n, e, hb, hn⟩
  · exact Or.inl h
  · exact Or.inr ⟨b, rows, ty, n, e, hs.c b _ hb, hn⟩
theorem Hg.upd {h : Hp} {x : AV} (H : Hg h x) {b : Nat} {rows rows' : List (List AV)} {ty : Option (Nat × Nat)} (hb : h b = some ⟨1, rows, ty⟩) (hl : rows'.length = rows.length) : Hg (h.upd b ⟨1, rows', ty⟩) x := by
  rcases H with h | ⟨k, r2, t2, n, e, hk, hn⟩
  · exact Or.inl h
  · by_cases ek : k = b
    · subst ek
      rw [hb] at hk; cases hk
      exact Or.inr ⟨k, rows', ty, n, e, Hp.upd_same _ _ _, by omega⟩
    · exact Or.inr ⟨k, r2, t2, n, e, by rw [Hp.upd_ne _ _ ek]; exact hk, hn⟩
end Go.Proofs.YtlnjajfagildnaaDoor.AM
