/- slices.Clone, told with where its answer stands: in a block of its own, from a call's begin on. -/
import Derived.Test.YtlnjajfagildnaaDoorPdb
import Derived.Test.YtlnjajfagildnaaDoorBlw
namespace Go.Proofs.YtlnjajfagildnaaDoor
open Go Go.RowKit Go.Proofs.YtlnjajfagildnaaDoor.AM
set_option linter.unusedVariables false
set_option linter.unusedSimpArgs false

theorem HR.frzNew {g : Gh} {h : Hp} {w w' : World} (k : HR g h w) (hb : Below w.heap.size w w') {b : Nat} {o : Obj} (ho : w'.heap[b]? = some o) (hge : w.heap.size ≤ b) : g.le (g.frz b o) ∧ HR (g.frz b o) h w' := by
  have kb := k.below hb
  have none_of : ∀ x y, g.fz x = some y → x ≠ b := by
    intro x y hx e
    have := (Array.getElem?_eq_some_iff.1 (k.fz x y hx)).1
    omega
  have hle : g.le (g.frz b o) := by
    refine ⟨rfl, fun x y hx => ?_, fun _ _ hx => hx⟩
    simp only [Gh.frz]; rw [if_neg (none_of x y hx)]; exact hx
  refine ⟨hle, ?_⟩
  constructor
  · exact kb.os
  · exact kb.tape
  · exact kb.output
  · exact kb.size
  · intro x y hx
    simp only [Gh.frz] at hx
    split at hx
    · rename_i e; cases hx; rw [e]; exact ho
    · exact kb.fz x y hx
  · exact kb.shp
  · intro x y hx
    obtain ⟨q1, c, e, q2, q3, q4⟩ := kb.ob x y hx
    obtain ⟨p1, c', e', ⟨fr', p2, _⟩, _, _⟩ := k.ob x y hx
    have hne : x ≠ b := by have := (Array.getElem?_eq_some_iff.1 p2).1; omega
    refine ⟨⟨?_, q1.2⟩, c, e, q2, q3, q4.mono hle c y.sz 0 y.rows⟩
    simp only [Gh.frz]; rw [if_neg hne]; exact q1.1
  · exact glob_mono hle.fz kb.gl
  · intro x y hx
    obtain ⟨r1, r2⟩ := kb.raw x y hx
    have hne : x ≠ b := by have := (Array.getElem?_eq_some_iff.1 (k.raw x y hx).1.1).1; omega
    refine ⟨r1, ?_⟩
    simp only [Gh.frz]; rw [if_neg hne]; exact r2

theorem slices_Clone_string_string.okN {a0_ : List ByteArray} {Q : (List ByteArray) → Prop} (hm : slices_Clone_string_string.w a0_ Q) (h0 : Hp) : ACalls Tryd.prog 20 [.isl 1 (a0_.map AM.encStr)] h0 (Back h0 (fun r => .nsl 1 (r.map AM.encStr)) Q) := by
  unfold slices_Clone_string_string.w at hm
  refine ⟨⟨_, Tryd.func20, by kernel_rfl, by kernel_rfl⟩, fun g w vs hv hh => ?_⟩
  obtain ⟨v, rfl, hx⟩ : ∃ v, vs = #[v] ∧ VR g (.isl 1 (a0_.map AM.encStr)) v := by
    match e : vs.toList, hv with
    | [u], hv => exact ⟨u, by apply Array.ext'; rw [e], by simpa [VRs] using hv⟩
    | [], hv => simp [VRs] at hv
    | _ :: _ :: _, hv => simp [VRs] at hv
  simp only [VR] at hx
  obtain ⟨A, cap, rfl, hcap, hx⟩ := hx
  rw [List.length_map] at hcap ⊢
  by_cases hn : a0_ = []
  · subst hn
    have fin : ∀ (w' : World) (A' : Option Addr) (cap' : Nat), Below w.heap.size w w' → ∃ g' h' E, g.le g' ∧ HR g' h' w' ∧ Back h0 (fun r : List ByteArray => .nsl 1 (r.map AM.encStr)) Q E h' ∧ (match E with | .ret x => VR g' x (.slice A' 0 cap') | .pan x => False) := by
      intro w' A' cap' hb
      refine ⟨g, h0, .ret (.nsl 1 []), Gh.le.refl g, hh.below hb, ⟨[], rfl, rfl, hm.1 rfl⟩, ?_⟩
      simp only [VR]
      exact ⟨A', cap', rfl, Nat.zero_le _, Or.inl trivial⟩
    cases A with
    | none =>
      refine (Tryd.slices_Clone_string_nil 0 cap w).mono ?_
      rintro e w' ⟨rfl, rfl⟩
      obtain ⟨g', h', E, a, b, c, d⟩ := fin w' none 0 (Below.refl _ _)
      refine ⟨g', h', E, a, b, c, ?_⟩
      cases E <;> exact d
    | some a =>
      refine (Tryd.slices_Clone_string_zero a cap w).mono ?_
      rintro e w' ⟨v', rfl, ow, _, hb⟩
      rcases ow.2 with ⟨rfl, _⟩ | ⟨b, cap', cur, rfl, _⟩
      · obtain ⟨g', h', E, a, b, c, d⟩ := fin w' none 0 hb
        refine ⟨g', h', E, a, b, c, ?_⟩
        cases E <;> exact d
      · obtain ⟨g', h', E, a, b, c, d⟩ := fin w' _ cap' hb
        refine ⟨g', h', E, a, b, c, ?_⟩
        cases E <;> exact d
  rcases hx with hx | ⟨a, c, e, fr, rfl, hs, hf, hr⟩
  · exact absurd (List.map_eq_nil_iff.1 hx) hn
  obtain ⟨b, off, sp⟩ := a
  dsimp only at hs hf hr
  subst hs
  have hcell := hh.fz _ _ hf
  have hbig := hm.2.1
  simp only [List.length_nil] at hbig
  refine (Tryd.slices_Clone_string b off a0_.length cap a0_ w (Nat.le_refl _) (by omega) ?_).mono ?_
  · intro j hj
    have h1 : (a0_.map AM.encStr)[j]? = some (AM.encStr a0_[j]) := by simp [hj]
    obtain ⟨_, q⟩ := hr.get h1
    obtain ⟨u, u1, _, u2⟩ := q.get (k := 0) (x := .val (.string a0_[j])) rfl
    simp only [VR] at u2; subst u2
    rw [Lib.cell_of_heap hcell]
    simp only [Nat.mul_one, Nat.add_zero] at u1
    rw [u1]
    simp [List.getD, hj]
  · rintro e' w' ⟨v', rfl, ow, _, hb⟩
    rcases ow.2 with ⟨_, h0'⟩ | ⟨b', cap', cur, rfl, q1, q2, q3, q4, q5, q6⟩
    · exact absurd (List.length_eq_zero_iff.1 h0') hn
    obtain ⟨hle, hh'⟩ := HR.frzNew hh hb q2 q1
    refine ⟨g.frz b' (.cells cur _ (0, 0)), h0, .ret (.nsl 1 (a0_.map AM.encStr)), hle, hh', ⟨a0_, rfl, rfl, hm.2.2⟩, ?_⟩
    simp only [VR]
    refine ⟨some ⟨b', 0, none⟩, cap', by rw [List.length_map], by rw [List.length_map]; exact q3, Or.inr ⟨b', cur, _, rfl, Nat.le_trans hh.size q1, by omega, if_pos rfl, ?_⟩⟩
    refine RowsAt.of_get fun i r hi => ?_
    rw [List.getElem?_map] at hi
    obtain ⟨s, hs, rfl⟩ := Option.map_eq_some_iff.1 hi
    refine ⟨rfl, CellsAt.of_get fun k y hy => ?_⟩
    have hk : k = 0 := by have := (List.getElem?_eq_some_iff.1 hy).1; simpa [AM.encStr] using this
    subst hk
    simp [AM.encStr] at hy; subst hy
    refine ⟨.string s, ?_, rfl, by simp only [VR]⟩
    have : (cur.toList.take (a0_.length * 1))[i]? = some (.string s) := by
      rw [q6, List.take_of_length_le (Nat.le_refl _), List.getElem?_map, hs]; rfl
    have hi2 := (List.getElem?_eq_some_iff.1 hs).1
    rw [List.getElem?_take, if_pos (by omega)] at this
    simpa using this
end Go.Proofs.YtlnjajfagildnaaDoor
