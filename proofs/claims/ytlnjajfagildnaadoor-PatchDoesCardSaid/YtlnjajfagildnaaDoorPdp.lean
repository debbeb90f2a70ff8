/- A call's answer whose inner slices stand in fresh blocks: these blocks are the caller's own. -/
import Derived.Test.YtlnjajfagildnaaDoorPdo
namespace Go.Proofs.YtlnjajfagildnaaDoor.AM
open Go
set_option linter.unusedVariables false
set_option linter.unusedSimpArgs false

/-! ### values that tell nothing of a call's begin -/
mutual
def noN : AV → Bool
  | .nsl .. => false
  | .yld .. => false
  | .isl _ rows => noNss rows
  | .iptr row _ => noNs row
  | .fn _ f c => noNs f && noNs c
  | .agg cs => noNs cs
  | .tup cs => noNs cs
  | .ifc _ x => noN x
  | _ => true
def noNs : List AV → Bool
  | [] => true
  | x :: xs => noN x && noNs xs
def noNss : List (List AV) → Bool
  | [] => true
  | r :: rs => noNs r && noNss rs
end
mutual
theorem VR.w0 {g g' : Gh} (hf : g'.fz = g.fz) (hs : g'.shp = g.shp) : ∀ (x : AV) (v : Value), noN x = true → VR g x v → VR g' x v
  | .any, _, _, _ => by simp [VR]
  | .val u, v, _, k => by simpa [VR] using k
  | .isl sz rows, v, n, k => by
    simp only [noN] at n
    simp only [VR] at k ⊢
    obtain ⟨A, cap, rfl, hc, k⟩ := k
    refine ⟨A, cap, rfl, hc, k.imp id ?_⟩
    rintro ⟨a, c, e, fr, rfl, hsp, hfz, hr⟩
    exact ⟨a, c, e, fr, rfl, hsp, by rw [hf]; exact hfz, RowsAt.w0 hf hs c sz _ rows n hr⟩
  | .osl b sz off len, v, _, k => by
    simp only [VR] at k ⊢
    rw [hs]; exact k
  | .iptr row col, v, n, k => by
    simp only [noN] at n
    simp only [VR] at k ⊢
    obtain ⟨a, c, e, fr, rfl, hsp, hc, hfz, hr⟩ := k
    exact ⟨a, c, e, fr, rfl, hsp, hc, by rw [hf]; exact hfz, CellsAt.w0 hf hs c _ row n hr⟩
  | .optr .., v, _, k => by simpa [VR] using k
  | .fn f first caps, v, n, k => by
    simp only [noN, Bool.and_eq_true] at n
    simp only [VR] at k ⊢
    obtain ⟨fs, cs, rfl, h1, h2⟩ := k
    exact ⟨fs, cs, rfl, VRs.w0 hf hs first _ n.1 h1, VRs.w0 hf hs caps _ n.2 h2⟩
  | .agg cells, v, n, k => by
    simp only [noN] at n
    simp only [VR] at k ⊢
    obtain ⟨vs, rfl, h1, h2⟩ := k
    exact ⟨vs, rfl, CellsAt.w0 hf hs vs _ cells n h1, h2⟩
  | .tup xs, v, n, k => by
    simp only [noN] at n
    simp only [VR] at k ⊢
    obtain ⟨vs, rfl, h1⟩ := k
    exact ⟨vs, rfl, VRs.w0 hf hs xs _ n h1⟩
  | .ifc t x, v, n, k => by
    simp only [noN] at n
    simp only [VR] at k ⊢
    obtain ⟨u, rfl, h1⟩ := k
    exact ⟨u, rfl, VR.w0 hf hs x u n h1⟩
  | .yld l gb, v, n, k => by simp [noN] at n
  | .nsl sz rows, v, n, k => by simp [noN] at n
theorem CellsAt.w0 {g g' : Gh} (hf : g'.fz = g.fz) (hs : g'.shp = g.shp) (c : Array Value) : ∀ (o : Nat) (xs : List AV), noNs xs = true → CellsAt g c o xs → CellsAt g' c o xs
  | _, [], _, _ => by simp [CellsAt]
  | o, x :: xs, n, k => by
    simp only [noNs, Bool.and_eq_true] at n
    simp only [CellsAt] at k ⊢
    obtain ⟨⟨v, h1, h2, h3⟩, h4⟩ := k
    exact ⟨⟨v, h1, h2, VR.w0 hf hs x v n.1 h3⟩, CellsAt.w0 hf hs c _ xs n.2 h4⟩
theorem RowsAt.w0 {g g' : Gh} (hf : g'.fz = g.fz) (hs : g'.shp = g.shp) (c : Array Value) (sz : Nat) : ∀ (o : Nat) (rs : List (List AV)), noNss rs = true → RowsAt g c sz o rs → RowsAt g' c sz o rs
  | _, [], _, _ => by simp [RowsAt]
  | o, r :: rs, n, k => by
    simp only [noNss, Bool.and_eq_true] at n
    simp only [RowsAt] at k ⊢
    exact ⟨k.1, CellsAt.w0 hf hs c _ r n.1 k.2.1, RowsAt.w0 hf hs c sz _ rs n.2 k.2.2⟩
theorem VRs.w0 {g g' : Gh} (hf : g'.fz = g.fz) (hs : g'.shp = g.shp) : ∀ (xs : List AV) (vs : List Value), noNs xs = true → VRs g xs vs → VRs g' xs vs
  | [], [], _, _ => by simp [VRs]
  | x :: xs, v :: vs, n, k => by
    simp only [noNs, Bool.and_eq_true] at n
    simp only [VRs] at k ⊢
    exact ⟨VR.w0 hf hs x v n.1 k.1, VRs.w0 hf hs xs vs n.2 k.2⟩
  | [], _ :: _, _, k => by simp [VRs] at k
  | _ :: _, [], _, k => by simp [VRs] at k
end
theorem noNss_map {α : Type} {f : α → List AV} (h : ∀ x, noNs (f x) = true) : ∀ l : List α, noNss (l.map f) = true
  | [] => rfl
  | x :: l => by simp only [List.map_cons, noNss, h x, noNss_map h l, Bool.and_self]

/-! ### what texts a block has -/
def dec : List Value → List (List AV)
  | .string s :: l => [astr s] :: dec l
  | _ => []
theorem dec_take : ∀ (lines : List ByteArray) (vals : List Value), (∀ (i : Nat) (s : ByteArray), lines[i]? = some s → vals[i]? = some (Value.string s)) → (dec vals).take lines.length = lines.map AM.encStr
  | [], _, _ => by simp
  | s :: lines, vals, h => by
    have h0 := h 0 s rfl
    cases vals with
    | nil => simp at h0
    | cons v vals =>
      simp at h0; subst h0
      simp only [dec, List.length_cons, List.take_succ_cons, List.map_cons]
      rw [dec_take lines vals fun i t ht => by simpa using h (i + 1) t (by simpa using ht)]
      rfl
theorem dec_get : ∀ (vals : List Value) (i : Nat) (r : List AV), (dec vals)[i]? = some r → ∃ s, r = [astr s] ∧ vals[i]? = some (Value.string s)
  | [], i, r, h => by simp [dec] at h
  | v :: vals, i, r, h => by
    cases v with
    | string s =>
      simp only [dec] at h
      cases i with
      | zero => simp at h; exact ⟨s, h.symm, rfl⟩
      | succ i =>
        obtain ⟨t, h1, h2⟩ := dec_get vals i r (by simpa using h)
        exact ⟨t, h1, by simpa using h2⟩
    | _ => simp [dec] at h
theorem dec_rows (g : Gh) (c : Array Value) : RowsAt g c 1 0 (dec c.toList) := by
  refine RowsAt.of_get fun i r hi => ?_
  obtain ⟨s, rfl, h2⟩ := dec_get _ _ _ hi
  refine ⟨rfl, CellsAt.of_get fun k y hy => ?_⟩
  have hk : k = 0 := by have := (List.getElem?_eq_some_iff.1 hy).1; simpa using this
  subst hk
  simp at hy; subst hy
  exact ⟨.string s, by simpa using h2, rfl, by simp only [astr, VR]⟩
def decO : Option Obj → List (List AV)
  | some (.cells c _ _) => dec c.toList
  | _ => []

/-- an inner slice's handle -/
def Hdl (h0 h1 : Hp) (lines : List ByteArray) (x : AV) : Prop := (lines = [] ∧ x = .isl 1 []) ∨ ∃ b rows ty, x = .osl b 1 0 lines.length ∧ h0 b = none ∧ h1 b = some ⟨1, rows, ty⟩ ∧ rows.take lines.length = lines.map AM.encStr

theorem own_of_fresh {P : Program} {α ρ : Type} {n : Nat} {args : List AV} {sz : Nat} {ty : Option (Nat × Nat)} (pre : α → List Value) (ls : α → List ByteArray) {E : α → List AV} (hE : ∀ x, E x = (pre x).map AV.val ++ [.nsl 1 ((ls x).map AM.encStr)])
    {wr : ρ → AV → AV} (hst : ∀ r x (g g' : Gh) v, (∀ u, VR g x u → VR g' x u) → VR g (wr r x) v → VR g' (wr r x) v) {rs : ρ → List α} {Q : ρ → Prop} (hargs : noNs args = true)
    (hc : ∀ h, ACalls P n args h fun e h' => ∃ r x, e = .ret (wr r x) ∧ Own h h' [⟨x, false, sz, (rs r).map E, ty⟩] ∧ Q r) (h0 : Hp) :
    ACalls P n args h0 fun e h' => ∃ r x hs h1, e = .ret (wr r x) ∧ hs.length = (rs r).length ∧ h0.sub h1 ∧ (∀ p ∈ (rs r).zip hs, Hdl h0 h1 (ls p.1) p.2) ∧
      Own h1 h' [⟨x, false, sz, ((rs r).zip hs).map (fun p => (pre p.1).map AV.val ++ [p.2]), ty⟩] ∧ Q r := by
  classical
  refine ⟨(hc h0).1, fun g w vs hv hh => ?_⟩
  obtain ⟨hle, hall⟩ := hh.all
  obtain ⟨gs, hgs⟩ : ∃ gs : Gh, gs = { g.all h0 w with w0 := w } := ⟨_, rfl⟩
  have hs0 : HR gs ⟨fun _ => none, h0.r⟩ w := by rw [hgs]; exact ⟨rfl, rfl, rfl, Nat.le_refl _, hall.fz, hall.shp, fun b o hb => (by cases hb), hall.gl, hall.raw⟩
  have hvs : VRs gs args vs.toList := VRs.w0 (by rw [hgs]) (by rw [hgs]) _ _ hargs (hv.mono hle)
  refine ((hc ⟨fun _ => none, h0.r⟩).2 gs w vs hvs hs0).mono ?_
  rintro e w' ⟨g2, h2, E2, a, b, ⟨r, x, rfl, HO, hq⟩, dd⟩
  cases e with
  | panicked c => exact dd.elim
  | outgrown => exact dd.elim
  | returned v =>
    have dd : VR g2 (wr r x) v := dd
    have ew : g2.w0 = w := by rw [a.w0, hgs]
    let B : Nat → Prop := fun k => w.heap.size ≤ k ∧ ∃ c t, g2.fz k = some (.cells c t (0, 0))
    let g3 : Gh := { w0 := g.w0, fz := fun k => if (h0 k).isSome ∨ B k then none else g2.fz k, shp := fun k => if B k then w'.shape? k else g2.shp k }
    let h1 : Hp := { c := fun k => if B k then some ⟨1, decO (g2.fz k), none⟩ else h0 k, r := h0.r }
    have hold : ∀ k o, h0 k = some o → k < w.heap.size := by
      intro k o hk
      obtain ⟨_, c, t, ⟨fr, q2, _⟩, _⟩ := hh.ob k o hk
      exact (Array.getElem?_eq_some_iff.1 q2).1
    have allfz : ∀ k o, (g.all h0 w).fz k = some o → g2.fz k = some o := fun k o hk => a.fz k o (by rw [hgs]; exact hk)
    have same : ∀ k o, h0 k = some o → w'.heap[k]? = w.heap[k]? ∧ ∃ y, g2.fz k = some y := by
      intro k o ho
      obtain ⟨q1, c, t, ⟨fr, q2, qt⟩, q3, q4⟩ := hh.ob k o ho
      have : g2.fz k = some (.cells c t fr) := allfz k _ (by simp [Gh.all, ho, q2])
      exact ⟨by rw [q2]; exact b.fz k _ this, _, this⟩
    have nB : ∀ k, k < w.heap.size → ¬ B k := fun k hk hb => by have := hb.1; omega
    have hg3 : g.le g3 := by
      refine ⟨rfl, fun k o hk => ?_, fun k y hk => ?_⟩
      · show (if (h0 k).isSome ∨ B k then none else g2.fz k) = some o
        have hlt : k < w.heap.size := (Array.getElem?_eq_some_iff.1 (hh.fz k o hk)).1
        have hn : h0 k = none := by
          cases e : h0 k with
          | none => rfl
          | some ob => have := (hh.ob k ob e).1.1; rw [this] at hk; cases hk
        rw [if_neg (by rw [hn]; simp; exact nB k hlt)]
        exact allfz k o (by simp only [Gh.all]; rw [if_neg (by rw [hn]; simp)]; exact hk)
      · show (if B k then w'.shape? k else g2.shp k) = some y
        have hlt : k < w.heap.size := by
          have := hh.shp k y hk
          simp only [World.shape?] at this
          cases e : w.heap[k]? with
          | none => simp [e] at this
          | some _ => exact (Array.getElem?_eq_some_iff.1 e).1
        rw [if_neg (nB k hlt)]
        exact a.shp k y (by rw [hgs]; exact hk)
    have shB : ∀ k c t, w.heap.size ≤ k → g2.fz k = some (.cells c t (0, 0)) → g3.shp k = some (t, c.size) := by
      intro k c t hk hf
      show (if B k then w'.shape? k else g2.shp k) = _
      rw [if_pos ⟨hk, c, t, hf⟩]
      simp only [World.shape?, b.fz k _ hf]
    have HR1 : HR g3 h1 w' := by
      refine ⟨b.os.trans (by rw [ew]; exact hh.os), b.tape.trans (by rw [ew]; exact hh.tape), b.output.trans (by rw [ew]; exact hh.output), Nat.le_trans hh.size (by have := b.size; rw [ew] at this; exact this), fun k o hk => ?_, fun k y hk => ?_, fun k o hk => ?_, glob_mono hg3.fz hh.gl, fun k y hk => ?_⟩
      · have hk : (if (h0 k).isSome ∨ B k then none else g2.fz k) = some o := hk
        split at hk
        · cases hk
        · exact b.fz k o hk
      · have hk : (if B k then w'.shape? k else g2.shp k) = some y := hk
        split at hk
        · exact hk
        · exact b.shp k y hk
      · have hk : (if B k then some ⟨1, decO (g2.fz k), none⟩ else h0 k) = some o := hk
        split at hk
        · rename_i hB
          cases hk
          obtain ⟨hge, c, t, hf⟩ := hB
          refine ⟨⟨?_, TyOK.none _⟩, c, t, CellsIn.plain (b.fz k _ hf), shB k c t hge hf, ?_⟩
          · show (if (h0 k).isSome ∨ B k then none else g2.fz k) = none
            rw [if_pos (Or.inr ⟨hge, c, t, hf⟩)]
          · rw [hf]; exact dec_rows g3 c
        · obtain ⟨q1, c, t, ⟨fr, q2, qt⟩, q3, q4⟩ := hh.ob k o hk
          refine ⟨⟨?_, q1.2.mono fun y hy => hg3.shp _ _ hy⟩, c, t, ⟨fr, ?_, qt⟩, hg3.shp _ _ q3, q4.mono hg3 c o.sz 0 o.rows⟩
          · show (if (h0 k).isSome ∨ B k then none else g2.fz k) = none
            rw [if_pos (Or.inl (by rw [hk]; rfl))]
          · rw [(same k o hk).1]; exact q2
      · have := b.raw k y (HO.sub.r k y hk)
        refine ⟨this.1, ?_⟩
        show (if (h0 k).isSome ∨ B k then none else g2.fz k) = none
        split
        · rfl
        · exact this.2
    have hsub1 : h0.sub h1 := by
      refine ⟨fun k o hk => ?_, fun k o hk => hk⟩
      show (if B k then some ⟨1, decO (g2.fz k), none⟩ else h0 k) = some o
      rw [if_neg (nB k (hold k o hk))]; exact hk
    have conv : ∀ (l : List α) (c : Array Value) (o : Nat), RowsAt g2 c sz o (l.map E) → ∃ hs : List AV, hs.length = l.length ∧ RowsAt g3 c sz o ((l.zip hs).map fun p => (pre p.1).map AV.val ++ [p.2]) ∧ ∀ p ∈ l.zip hs, Hdl h0 h1 (ls p.1) p.2 := by
      intro l c
      induction l with
      | nil => intro o _; exact ⟨[], rfl, by simp [RowsAt], by simp⟩
      | cons y l ih =>
        intro o hr
        simp only [List.map_cons, RowsAt] at hr
        obtain ⟨r1, r2, r3⟩ := hr
        obtain ⟨hs, i1, i2, i3⟩ := ih _ r3
        rw [hE] at r1 r2
        obtain ⟨u, u1, u2, u3⟩ := r2.get (k := (pre y).length) (x := .nsl 1 ((ls y).map AM.encStr)) (by simp)
        have key : ∃ x, VR g3 x u ∧ Hdl h0 h1 (ls y) x := by
          simp only [VR] at u3
          obtain ⟨A, cap, rfl, hcap, hx⟩ := u3
          rw [List.length_map] at hcap ⊢
          by_cases hn : ls y = []
          · refine ⟨.isl 1 [], ?_, Or.inl ⟨hn, rfl⟩⟩
            simp only [VR]
            exact ⟨A, cap, by rw [hn]; rfl, Nat.zero_le _, Or.inl trivial⟩
          · rcases hx with hx | ⟨bb, cc, ee, rfl, hge, hcs, hf, hrr⟩
            · exact absurd (List.map_eq_nil_iff.1 hx) hn
            rw [ew] at hge
            have hB : B bb := ⟨hge, cc, ee, hf⟩
            refine ⟨.osl bb 1 0 (ls y).length, ?_, Or.inr ⟨bb, dec cc.toList, none, rfl, ?_, ?_, ?_⟩⟩
            · simp only [VR]
              exact ⟨⟨bb, 0, none⟩, cap, rfl, hcap, rfl, Or.inr ⟨by simp, ee, cc.size, shB bb cc ee hge hf, by omega⟩⟩
            · cases e : h0 bb with
              | none => rfl
              | some ob => have := hold bb ob e; omega
            · show (if B bb then some ⟨1, decO (g2.fz bb), none⟩ else h0 bb) = _
              rw [if_pos hB, hf]; rfl
            · refine dec_take _ _ fun i s hi => ?_
              obtain ⟨_, q⟩ := hrr.get (i := i) (r := AM.encStr s) (by simp [hi])
              obtain ⟨z, z1, _, z2⟩ := q.get (k := 0) (x := .val (.string s)) rfl
              simp only [VR] at z2; subst z2
              simpa using z1
        obtain ⟨x, x1, x2⟩ := key
        refine ⟨x :: hs, by simp [i1], ?_, ?_⟩
        · simp only [List.zip_cons_cons, List.map_cons, RowsAt]
          refine ⟨by simpa using r1, CellsAt.of_get fun k z hz => ?_, i2⟩
          rcases Nat.lt_or_ge k (pre y).length with hk | hk
          · rw [List.getElem?_append_left (by simpa using hk)] at hz
            obtain ⟨u', w1, w2, w3⟩ := r2.get (k := k) (x := z) (by rw [List.getElem?_append_left (by simpa using hk)]; exact hz)
            refine ⟨u', w1, w2, ?_⟩
            rw [List.getElem?_map] at hz
            obtain ⟨val, _, rfl⟩ := Option.map_eq_some_iff.1 hz
            simpa only [VR] using w3
          · rw [List.getElem?_append_right (by simpa using hk)] at hz
            have hk' : k = (pre y).length := by
              have := (List.getElem?_eq_some_iff.1 hz).1
              simp at this; omega
            subst hk'
            simp at hz; subst hz
            exact ⟨u, u1, u2, x1⟩
        · intro p hp
          rw [List.zip_cons_cons] at hp
          rcases List.mem_cons.1 hp with rfl | hp
          · exact x2
          · exact i3 p hp
    rcases HO.cases 0 rfl with ⟨rfl, hnil⟩ | ⟨bC, tl, rfl, hbC⟩
    · have hrs : rs r = [] := List.map_eq_nil_iff.1 hnil
      refine ⟨g3, h1, .ret (wr r anil), hg3, HR1, ⟨r, anil, [], h1, rfl, by rw [hrs]; rfl, hsub1, by simp, ?_, hq⟩, hst r anil g2 g3 v (fun u hu => by simpa only [anil, VR] using hu) dd⟩
      have := (Own.nil h1).addNil sz ty
      rw [hrs]; simpa using this
    · obtain ⟨q1, c, t, q2, q3, q4⟩ := b.ob bC _ hbC
      have hn0 : h0 bC = none := by
        cases e : h0 bC with
        | none => rfl
        | some ob => obtain ⟨_, y, hy⟩ := same bC ob e; rw [q1.1] at hy; cases hy
      have hnB : ¬ B bC := fun hb => by obtain ⟨_, c, t, hf⟩ := hb; rw [q1.1] at hf; cases hf
      have hn1 : h1 bC = none := by
        show (if B bC then some ⟨1, decO (g2.fz bC), none⟩ else h0 bC) = none
        rw [if_neg hnB]; exact hn0
      have hpre : RowsAt g2 c sz 0 ((rs r).map E) := by
        have := q4.take ((rs r).map E).length
        simpa using this
      obtain ⟨hs, i1, i2, i3⟩ := conv _ c 0 hpre
      have hsp : g3.shp bC = g2.shp bC := by
        show (if B bC then w'.shape? bC else g2.shp bC) = _
        rw [if_neg hnB]
      have hlen : (((rs r).zip hs).map fun p => (pre p.1).map AV.val ++ [p.2]).length = ((rs r).map E).length := by simp [i1]
      refine ⟨g3, h1.upd bC ⟨sz, ((rs r).zip hs).map (fun p => (pre p.1).map AV.val ++ [p.2]), ty⟩, .ret (wr r (.osl bC sz 0 ((rs r).map E).length)), hg3, ?_, ⟨r, .osl bC sz 0 ((rs r).map E).length, hs, h1, rfl, i1, hsub1, i3, ?_, hq⟩, hst r _ g2 g3 v (fun u hu => ?_) dd⟩
      · refine ⟨HR1.os, HR1.tape, HR1.output, HR1.size, HR1.fz, HR1.shp, fun k o hk => ?_, HR1.gl, HR1.raw⟩
        by_cases e : k = bC
        · subst e
          simp only [Hp.upd_same] at hk; cases hk
          refine ⟨⟨?_, by rw [hsp]; exact q1.2⟩, c, t, q2, by rw [hsp]; exact q3, i2⟩
          show (if (h0 k).isSome ∨ B k then none else g2.fz k) = none
          split
          · rfl
          · exact q1.1
        · rw [Hp.upd_ne _ _ e] at hk
          exact HR1.ob k o hk
      · have := (Own.nil h1).add hn1 ⟨.osl bC sz 0 ((rs r).map E).length, false, sz, ((rs r).zip hs).map (fun p => (pre p.1).map AV.val ++ [p.2]), ty⟩ (by simp only [Itm.blk]; rw [hlen]; rfl)
        simpa using this
      · simp only [VR] at hu ⊢
        rw [hsp]; exact hu
end Go.Proofs.YtlnjajfagildnaaDoor.AM
