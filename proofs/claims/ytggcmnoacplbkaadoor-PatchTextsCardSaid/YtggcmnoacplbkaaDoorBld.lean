/- strings.Builder: what copyCheck and String do to a builder that is owned, wherever it stands in a variable. -/
import Derived.Test.YtggcmnoacplbkaaDoorTab
import Derived.Lib.UnsafeStr
import Derived.Lib.Builder
import Derived.Lib.Walk
import Derived.WalkKit
import Derived.Laws.Externs
import Derived.Shelf.RegionOpenPlain
import Derived.Below
import Derived.Test.YtggcmnoacplbkaaDoorOwn
namespace Go.Proofs.YtggcmnoacplbkaaDoor.AM
open Go Go.RowKit
set_option linter.unusedVariables false
set_option linter.unusedSimpArgs false

/-- a builder's first cell: nil, or its own address -/
def bself (p : Bool) (b sz off : Nat) : AV := if p then .optr b sz 0 off else .val (.pointer none)
theorem bself_true (b sz off : Nat) : bself true b sz off = .optr b sz 0 off := rfl
theorem bself_false (b sz off : Nat) : bself false b sz off = .val (.pointer none) := rfl

theorem bldSize : (Tryd.prog.info? 46).map (·.size) = some 2 := by kernel_rfl

set_option maxHeartbeats 1000000 in
set_option maxRecDepth 100000 in
theorem copyCheck_used (b o : Nat) (w : World) (h0 : w.cell? ⟨b, o, none⟩ = some (.pointer (some ⟨b, o, none⟩))) :
    Calls Tryd.prog 26 #[.pointer (some ⟨b, o, none⟩)] w fun e w' => e = .returned (.tuple #[]) ∧ w' = w := by
  obtain ⟨j, hj, _⟩ := Option.map_eq_some_iff.1 bldSize
  have mixed := YtggcmnoacplbkaaDoor.mixed
  go_enter Tryd.func26, Tryd.ntmps26
  go_wp2
  rw [Lib.run_neq_ptr_same w _ Tryd.underlying43 hj]
  go_wp2
  go_end0
  exact ⟨rfl, rfl⟩

set_option maxHeartbeats 1000000 in
set_option maxRecDepth 100000 in
theorem copyCheck_fresh (b o : Nat) (w : World) {T n : Nat} (h0 : w.cell? ⟨b, o, none⟩ = some (.pointer none)) (hsh : w.shape? b = some (T, n)) (ho : o < n) (hl : liesAt Tryd.prog Tryd.prog.depth T (n / Tryd.prog.cellsOf T) o 46 1 = true) (hfz : w.frozen? ⟨b, o, none⟩ = false) :
    Calls Tryd.prog 26 #[.pointer (some ⟨b, o, none⟩)] w fun e w' => e = .returned (.tuple #[]) ∧ w' = w.setCell ⟨b, o, none⟩ (.pointer (some ⟨b, o, none⟩)) := by
  obtain ⟨j, hj, hjs⟩ := Option.map_eq_some_iff.1 bldSize
  have mixed := YtggcmnoacplbkaaDoor.mixed
  go_enter Tryd.func26, Tryd.ntmps26
  go_wp2
  rw [Lib.run_to_unsafe w ⟨b, o, none⟩ Tryd.underlying43 Tryd.underlying76 hj (by rw [hjs]; decide) hsh ho]
  simp only [Result.andThen]
  rw [Oper.upon_value]
  go_wp2
  rw [run_callFunc_extern Tryd.func33 (by kernel_rfl) (by kernel_rfl) (by kernel_rfl) (e := Extern.AbiNoEscape.same) (by kernel_rfl)]
  rw [Lib.run_noEscape]
  simp only [Result.andThen]
  rw [Oper.upon_value]
  go_wp2
  rw [Lib.run_from_unsafe w ⟨b, o, none⟩ Tryd.underlying76 Tryd.underlying43 hj hsh hl]
  simp only [Result.andThen]
  rw [Oper.upon_value]
  go_wp2
  go_end0
  exact ⟨rfl, rfl⟩

theorem setCell_row {w : World} {b o : Nat} {c : Array Value} {e : TypeId} {fr : Nat × Nat} (hb : w.heap[b]? = some (.cells c e fr)) (v : Value) : w.setCell ⟨b, o, none⟩ v = w.setRow b (c.setIfInBounds o v) := by
  unfold World.setCell World.setRow
  congr 1
  apply Array.ext_getElem?
  intro i
  rw [Array.getElem?_modify, Array.getElem?_modify]
  split
  · rename_i q; subst q
    rw [hb]; simp
  · rfl

section
variable {g : Gh} {h h0 : Hp} {w : World}
theorem frozen_th {w : World} {b o : Nat} {c : Array Value} {e : TypeId} {fr : Nat × Nat} {v : Value} (hb : w.heap[b]? = some (.cells c e fr)) (ht : Thawed fr c.size) (ho : c[o]? = some v) : w.frozen? ⟨b, o, none⟩ = false := by
  have hlt := (Array.getElem?_eq_some_iff.1 ho).1
  unfold Thawed at ht
  simp [World.frozen?, hb]
  omega
theorem HR.cell0 (hh : HR g h w) {b sz o : Nat} {r : List AV} {x : AV} {ty : Option (Nat × Nat)} (hb : h b = some ⟨sz, [r], ty⟩) (ho : r[o]? = some x) : ∃ c e v fr, w.heap[b]? = some (.cells c e fr) ∧ Thawed fr c.size ∧ g.shp b = some (e, c.size) ∧ c[o]? = some v ∧ VR g x v ∧ r.length = sz := by
  obtain ⟨q1, c, e, ⟨fr, q2, qt⟩, q3, q4⟩ := hh.ob b _ hb
  obtain ⟨l1, l2⟩ := q4.get (i := 0) (r := r) rfl
  obtain ⟨v, v1, v2, v3⟩ := l2.get ho
  exact ⟨c, e, v, fr, q2, qt, q3, by simpa using v1, v3, l1⟩
theorem HR.setCellP (hh : HR g h w) {b sz o : Nat} {r : List AV} {x x' : AV} {v : Value} {ty : Option (Nat × Nat)} (hb : h b = some ⟨sz, [r], ty⟩) (ho : r[o]? = some x) (hv : VR g x' v) (h1 : v.oneCell' = true) : HR g (h.upd b ⟨sz, [r.set o x'], ty⟩) (w.setCell ⟨b, o, none⟩ v) := by
  obtain ⟨q1, c, e, ⟨fr, q2, qt⟩, q3, q4⟩ := hh.ob b _ hb
  obtain ⟨l1, l2⟩ := q4.get (i := 0) (r := r) rfl
  obtain ⟨v0, v1, _, _⟩ := l2.get ho
  have hlt : o < c.size := by have := (Array.getElem?_eq_some_iff.1 v1).1; simpa using this
  rw [setCell_row q2]
  refine HR.set hh hb q2 (by simp) ?_ ty id
  refine RowsAt.of_get fun i q hi => ?_
  have hi0 : i = 0 := by have := (List.getElem?_eq_some_iff.1 hi).1; simpa using this
  subst hi0
  simp at hi; subst hi
  refine ⟨by simpa using l1, CellsAt.of_get fun k y hy => ?_⟩
  rw [List.getElem?_set] at hy
  split at hy
  · rename_i e1; subst e1
    split at hy <;> cases hy
    exact ⟨v, by simp [hlt], h1, hv⟩
  · rename_i hne
    obtain ⟨u, u1, u2, u3⟩ := l2.get hy
    refine ⟨u, ?_, u2, u3⟩
    simp only [Nat.zero_mul, Nat.zero_add] at u1 ⊢
    rw [Array.getElem?_setIfInBounds_ne hne]; exact u1

/-- copyCheck, in a variable that is owned -/
theorem copyCheck_gen {its : List Itm} (H : Own h0 h its) (j : Nat) {b sz off T : Nat} {r : List AV} {p : Bool} (hj : its[j]? = some ⟨.optr b sz 0 0, true, sz, [r], some (T, sz)⟩) (hr : r[off]? = some (bself p b sz off))
    (hs : sz ≠ 0) (hl : liesAt Tryd.prog Tryd.prog.depth T (sz / Tryd.prog.cellsOf T) off 46 1 = true) :
    ACalls Tryd.prog 26 [.optr b sz 0 off] h fun e h' => e = .ret (.tup []) ∧ Own h0 h' (its.set j ⟨.optr b sz 0 0, true, sz, [r.set off (.optr b sz 0 off)], some (T, sz)⟩) := by
  refine ⟨⟨_, Tryd.func26, by kernel_rfl, by kernel_rfl⟩, fun g w vs hv hh => ?_⟩
  have hb := H.getP j hj
  obtain ⟨c, e, v, fr, c1, cth, c2, c3, c4, c5⟩ := hh.cell0 hb hr
  have hofflt : off < sz := by have := (List.getElem?_eq_some_iff.1 hr).1; omega
  obtain ⟨n, n1, n2⟩ := (hh.ob b _ hb).1.2 T sz rfl
  have hn : n = sz := n2 hs
  subst hn
  have hvs : vs = #[.pointer (some ⟨b, off, none⟩)] := by
    match e : vs.toList, hv with
    | [u], hv =>
      simp only [VRs, VR, and_true, Nat.zero_mul, Nat.zero_add] at hv
      apply Array.ext'; rw [e, hv]
    | [], hv => simp [VRs] at hv
    | _ :: _ :: _, hv => simp [VRs] at hv
  subst hvs
  have hcell : w.cell? ⟨b, off, none⟩ = some v := by rw [Lib.cell_of_heap c1]; exact c3
  cases p with
  | true =>
    simp only [bself_true, VR, Nat.zero_mul, Nat.zero_add] at c4
    subst c4
    refine (copyCheck_used b off w hcell).mono ?_
    rintro e' w' ⟨rfl, rfl⟩
    refine ⟨g, h, .ret (.tup []), Gh.le.refl g, hh, ⟨rfl, ?_⟩, by simp only [VR]; exact ⟨#[], rfl, by simp [VRs]⟩⟩
    have e1 : r.set off (.optr b n 0 off) = r := by
      apply List.ext_getElem?
      intro k
      rw [List.getElem?_set]
      split
      · rename_i q; subst q
        have hlt : off < r.length := (List.getElem?_eq_some_iff.1 hr).1
        rw [if_pos hlt, hr, bself_true]
      · rfl
    rw [e1]
    have e2 : its.set j ⟨.optr b n 0 0, true, n, [r], some (T, n)⟩ = its := by
      apply List.ext_getElem?
      intro k
      rw [List.getElem?_set]
      split
      · rename_i q; subst q
        have hlt := (List.getElem?_eq_some_iff.1 hj).1
        rw [if_pos hlt, hj]
      · rfl
    rw [e2]; exact H
  | false =>
    simp only [bself_false, VR] at c4
    subst c4
    have hsh : w.shape? b = some (T, n) := hh.shp _ _ n1
    refine (copyCheck_fresh b off w hcell hsh hofflt hl (frozen_th c1 cth c3)).mono ?_
    rintro e' w' ⟨rfl, rfl⟩
    refine ⟨g, h.upd b ⟨n, [r.set off (.optr b n 0 off)], some (T, n)⟩, .ret (.tup []), Gh.le.refl g, hh.setCellP hb hr (by simp [VR]) rfl, ⟨rfl, H.setP j _ hj⟩, by simp only [VR]; exact ⟨#[], rfl, by simp [VRs]⟩⟩

theorem heap_freeze_other (w : World) (b n x : Nat) (hx : x ≠ b) : (w.freeze ⟨b, 0, none⟩ n).heap[x]? = w.heap[x]? := by
  unfold World.freeze
  split
  · rfl
  · simp only [Array.getElem?_modify]; rw [if_neg (Ne.symm hx)]
theorem shape_freeze (w : World) (b n x : Nat) : (w.freeze ⟨b, 0, none⟩ n).shape? x = w.shape? x := by
  by_cases hx : x = b
  · subst hx
    unfold World.freeze
    split
    · rfl
    · simp only [World.shape?, Array.getElem?_modify, if_true]
      cases w.heap[x]? with
      | none => rfl
      | some o => cases o <;> rfl
  · simp only [World.shape?, heap_freeze_other w b n x hx]
theorem HR.freezeW (hh : HR g h w) {b : Nat} {o : Ob} (hb : h b = some o) (n : Nat) : HR g (h.del b) (w.freeze ⟨b, 0, none⟩ n) := by
  obtain ⟨q1, c0, e0, q2, q3, q4⟩ := hh.ob b o hb
  have e1 : (w.freeze ⟨b, 0, none⟩ n).os = w.os ∧ (w.freeze ⟨b, 0, none⟩ n).tape = w.tape ∧ (w.freeze ⟨b, 0, none⟩ n).output = w.output ∧ (w.freeze ⟨b, 0, none⟩ n).heap.size = w.heap.size := by
    unfold World.freeze
    split
    · exact ⟨rfl, rfl, rfl, rfl⟩
    · exact ⟨rfl, rfl, rfl, by simp⟩
  constructor
  · rw [e1.1]; exact hh.os
  · rw [e1.2.1]; exact hh.tape
  · rw [e1.2.2.1]; exact hh.output
  · rw [e1.2.2.2]; exact hh.size
  · intro x y hx
    rw [heap_freeze_other]; exact hh.fz x y hx
    intro e; subst e; rw [q1.1] at hx; cases hx
  · intro x y hx
    rw [shape_freeze]; exact hh.shp x y hx
  · intro x y hx
    simp only [Hp.del] at hx
    split at hx
    · cases hx
    · rename_i hne
      obtain ⟨a1, c2, e2, a2, a3, a4⟩ := hh.ob x y hx
      exact ⟨a1, c2, e2, a2.of (fun o ho => by rw [heap_freeze_other _ _ _ _ hne]; exact ho), a3, a4⟩
  · exact hh.gl
  · intro x y hx
    have hk := hh.raw x y hx
    have hne : x ≠ b := by
      rintro rfl
      obtain ⟨fr, q2, _⟩ := q2
      rw [q2] at hk; cases hk.1.1; simp [notCells] at hk
    rw [heap_freeze_other _ _ _ _ hne]; exact hk

set_option maxHeartbeats 1000000 in
set_option maxRecDepth 100000 in
theorem bldString (b o gb cap : Nat) (cur : Array Value) (l : List UInt8) (w : World) (c1 : w.cell? ⟨b, o + 1, none⟩ = some (.slice (some ⟨gb, 0, none⟩) l.length cap)) {fr : Nat × Nat} (hg : w.heap[gb]? = some (.cells cur 5 fr)) (h0 : l ≠ []) (hc : l.length ≤ cap) (hcm : l.length ≤ cur.size) (hm : l.length ≤ 9223372036854775807)
    (hcell : ∀ (j : Nat) (x : UInt8), l[j]? = some x → cur[j]? = some (Value.int .u8 x.toNat)) :
    Calls Tryd.prog 16 #[.pointer (some ⟨b, o, none⟩)] w fun e w' => e = .returned (.string ⟨l.toArray⟩) ∧ w' = w.drew.freeze ⟨gb, 0, none⟩ l.length := by
  have hl0 : l.length ≠ 0 := by simpa using h0
  have c2 : w.drew.cell? ⟨b, o + 1, none⟩ = some (.slice (some ⟨gb, 0, none⟩) l.length cap) := c1
  have hSD : (Builtin.unsafeSliceData_ #[44] 68 #[.slice (some ⟨gb, 0, none⟩) l.length cap]).run Tryd.prog w.drew = .ok (.pointer (some ⟨gb, 0, none⟩)) w.drew :=
    Lib.run_unsafeSliceData_row _ _ _ _ _ _ (by omega)
  have hUS : (Builtin.unsafeString_ #[68, 3] 9 #[.pointer (some ⟨gb, 0, none⟩), .int .i64 l.length]).run Tryd.prog w.drew = .ok (.string ⟨l.toArray⟩) (w.drew.freeze ⟨gb, 0, none⟩ l.length) := by
    refine Lib.run_unsafeString_row w.drew 68 3 9 5 (by kernel_rfl) (by kernel_rfl) gb cur.size (by have hg' : w.drew.heap[gb]? = some (.cells cur 5 fr) := hg; simp [World.shape?, hg']) l h0 hcm hm ?_
    intro j x hx
    have hg' : w.drew.heap[gb]? = some (.cells cur 5 fr) := hg
    have : (⟨gb, 0, none⟩ : Addr).add j = ⟨gb, j, none⟩ := by simp [Addr.add]; try omega
    rw [this, Lib.cell_of_heap hg']
    exact hcell j x hx
  have mixed := YtggcmnoacplbkaaDoor.mixed
  go_enter Tryd.func16, Tryd.ntmps16
  go_wp2
  go_region_o
  all_goals (go_wp2; go_ret; exact ⟨rfl, rfl⟩)

/-- String, of a builder whose bytes are owned: they are told as a text -/
theorem bldString_gen {its : List Itm} (H : Own h0 h its) (i j : Nat) {b sz off : Nat} {r : List AV} {x : AV} {ty : Option (Nat × Nat)} (s : ByteArray) (hi : its[i]? = some ⟨.optr b sz 0 0, true, sz, [r], ty⟩) (hr : r[off + 1]? = some x)
    (hj : its[j]? = some ⟨x, false, 1, (strInts s).map encU8, some (5, 0)⟩) (hs : s.size ≠ 0) (hmx : s.size ≤ 9223372036854775807) :
    ACalls Tryd.prog 16 [.optr b sz 0 off] h fun e h' => e = .ret (.val (.string s)) ∧ Own h0 h' (its.set j dead) := by
  refine ⟨⟨_, Tryd.func16, by kernel_rfl, by kernel_rfl⟩, fun g w vs hv hh => ?_⟩
  have hb := H.getP i hi
  obtain ⟨c, e, v, fr, c1, cth, c2, c3, c4, c5⟩ := hh.cell0 hb hr
  have hvs : vs = #[.pointer (some ⟨b, off, none⟩)] := by
    match e : vs.toList, hv with
    | [u], hv =>
      simp only [VRs, VR, and_true, Nat.zero_mul, Nat.zero_add] at hv
      apply Array.ext'; rw [e, hv]
    | [], hv => simp [VRs] at hv
    | _ :: _ :: _, hv => simp [VRs] at hv
  subst hvs
  have hcell : w.cell? ⟨b, off + 1, none⟩ = some v := by rw [Lib.cell_of_heap c1]; exact c3
  rcases H.cases j hj with ⟨rfl, hnil⟩ | ⟨gb, tl, rfl, hgb⟩
  · have : (strInts s).length = 0 := by rw [← List.length_map (f := encU8), hnil]; rfl
    rw [strInts_length] at this; exact absurd this hs
  · have hlen : ((strInts s).map encU8).length = s.data.toList.length := by unfold strInts; rw [List.length_map, List.length_map]
    have hs' : s.data.toList.length ≠ 0 := hs
    simp only [VR] at c4
    obtain ⟨a, cap, rfl, d1, d2, d3⟩ := c4
    rw [hlen] at d1 hcell
    obtain ⟨q1, cg, eg, ⟨frg, q2, _⟩, q3, q4⟩ := hh.ob gb _ hgb
    obtain ⟨m, m1, m2⟩ := q1.2 _ _ rfl
    rw [q3] at m1
    obtain ⟨rfl, rfl⟩ : eg = 5 ∧ cg.size = m := by cases m1; exact ⟨rfl, rfl⟩
    rcases d3 with d3 | ⟨rfl, e3, n3, d3, d4⟩
    · omega
    · simp only [Nat.zero_mul] at hcell
      rw [q3] at d3
      have d5 : cg.size = n3 := by cases d3; rfl
      have hcells : ∀ (k : Nat) (x : UInt8), s.data.toList[k]? = some x → cg[k]? = some (Value.int .u8 x.toNat) := by
        intro k x hx
        have h1 : ((strInts s).map encU8 ++ tl)[k]? = some (encU8 x.toNat) := by
          have : ((strInts s).map encU8)[k]? = some (encU8 x.toNat) := by simp only [strInts, List.map_map, List.getElem?_map, hx]; rfl
          rw [List.getElem?_append_left (List.getElem?_eq_some_iff.1 this).1]; exact this
        obtain ⟨_, q6⟩ := q4.get h1
        obtain ⟨v, v1, _, v2⟩ := q6.get (k := 0) (x := .val (.int .u8 x.toNat)) rfl
        simp only [VR] at v2; subst v2
        simpa using v1
      have hsz : s.data.toList.length ≤ cg.size := by omega
      have hmx : s.data.toList.length ≤ 9223372036854775807 := hmx
      refine (bldString b off gb cap cg s.data.toList w hcell q2 (by intro e; rw [e] at hs'; exact hs' rfl) d1 hsz hmx hcells).mono ?_
      rintro e' w' ⟨rfl, rfl⟩
      obtain ⟨H1, _, _⟩ := H.del j hj (b := gb) (by simp [Itm.blk]) osl_ne_nil
      refine ⟨g, h.del gb, .ret (.val (.string s)), Gh.le.refl g, HR.freezeW hh.drew hgb _, ⟨rfl, H1⟩, ?_⟩
      simp only [VR]

theorem bldLies : liesAt Tryd.prog Tryd.prog.depth 46 (2 / Tryd.prog.cellsOf 46) 0 46 1 = true := by kernel_rfl
set_option maxRecDepth 100000 in
/-- copyCheck, of a variable that is a builder -/
theorem bldCheck {its : List Itm} (H : Own h0 h its) (j : Nat) {b : Nat} {p : Bool} {x : AV} (hj : its[j]? = some ⟨.optr b 2 0 0, true, 2, [[bself p b 2 0, x]], some (46, 2)⟩) :
    ACalls Tryd.prog 26 [.optr b 2 0 0] h fun e h' => e = .ret (.tup []) ∧ Own h0 h' (its.set j ⟨.optr b 2 0 0, true, 2, [[bself true b 2 0, x]], some (46, 2)⟩) :=
  copyCheck_gen H j hj rfl (by decide) bldLies
end
end Go.Proofs.YtggcmnoacplbkaaDoor.AM
