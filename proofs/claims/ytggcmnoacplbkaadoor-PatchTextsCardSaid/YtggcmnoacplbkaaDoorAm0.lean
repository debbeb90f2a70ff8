/- The abstract machine, part 0: abstract values, the ghost state, what it means that an abstract state describes a world; monotonicity. -/
import Derived.Orders
import Derived.KernelRfl
import Derived.Laws.AppendOwn
import Derived.Laws.OwnMore
import Derived.Laws.Slices
import Derived.WideLaws
import Derived.Test.YtggcmnoacplbkaaDoorGlob
namespace Go.Proofs.YtggcmnoacplbkaaDoor.AM
open Go
set_option linter.unusedVariables false
set_option linter.unusedSimpArgs false

/-- The ghost state: the world at the begin; blocks that never change; blocks' shapes. -/
structure Gh where
  w0 : World
  fz : Nat → Option Obj
  shp : Nat → Option (TypeId × Nat)
  /-- of a call's begin: deferred calls that it has made itself, ahead of what is told -/
  tl : List Deferred := []
  /-- no mark of a loop over a function comes ahead of these -/
  nm : Bool := false

structure Gh.le (g g' : Gh) : Prop where
  w0 : g'.w0 = g.w0
  fz : ∀ b o, g.fz b = some o → g'.fz b = some o
  shp : ∀ b x, g.shp b = some x → g'.shp b = some x

/-- the same, but for objects of other kinds than cells -/
structure Gh.cle (g g' : Gh) : Prop where
  w0 : g'.w0 = g.w0
  fz : ∀ b c e fr, g.fz b = some (.cells c e fr) → g'.fz b = some (.cells c e fr)
  shp : ∀ b x, g.shp b = some x → g'.shp b = some x
theorem Gh.cle.refl (g : Gh) : g.cle g := ⟨rfl, fun _ _ _ _ h => h, fun _ _ h => h⟩
theorem Gh.cle.trans {a b c : Gh} (h : a.cle b) (k : b.cle c) : a.cle c :=
  ⟨k.w0.trans h.w0, fun x o e f hx => k.fz x o e f (h.fz x o e f hx), fun x o hx => k.shp x o (h.shp x o hx)⟩

/-- Abstract values. 'isl': a slice whose cells never change any more, by value; 'osl': a slice within an owned block; 'iptr': a pointer into a row that never changes; 'optr': a pointer into an owned block. -/
inductive AV where
  | any
  | val (v : Value)
  | isl (sz : Nat) (rows : List (List AV))
  | osl (b sz off len : Nat)
  | iptr (row : List AV) (col : Nat)
  | optr (b sz row col : Nat)
  | fn (f : Fn) (first caps : List AV)
  | agg (cells : List AV)
  | tup (vs : List AV)
  | ifc (t : TypeId) (v : AV)
  | yld (l : Nat) (g : Gh)
  | nsl (sz : Nat) (rows : List (List AV))

instance : Inhabited AV := ⟨.any⟩

def aint (n : Int) : AV := .val (.int .i64 n)
def abyte (n : Int) : AV := .val (.int .u8 n)
def abool (b : Bool) : AV := .val (.bool b)
def astr (s : ByteArray) : AV := .val (.string s)
def anil : AV := .val (.slice none 0 0)

theorem Gh.le.refl (g : Gh) : g.le g := ⟨rfl, fun _ _ h => h, fun _ _ h => h⟩
theorem Gh.le.trans {a b c : Gh} (h : a.le b) (k : b.le c) : a.le c :=
  ⟨k.w0.trans h.w0, fun x o hx => k.fz x o (h.fz x o hx), fun x o hx => k.shp x o (h.shp x o hx)⟩

mutual
def VR (g : Gh) : AV → Value → Prop
  | .any, _ => True
  | .val u, v => v = u
  | .isl sz rows, v => ∃ A cap, v = .slice A rows.length cap ∧ rows.length ≤ cap ∧
      (rows = [] ∨ ∃ a c e fr, A = some a ∧ a.spot = none ∧ g.fz a.block = some (.cells c e fr) ∧ RowsAt g c sz a.off rows)
  | .osl b sz off len, v => ∃ a cap, v = .slice (some a) len cap ∧ len ≤ cap ∧ a.spot = none ∧
      (cap = 0 ∨ (a = ⟨b, off * sz, none⟩ ∧ ∃ e n, g.shp b = some (e, n) ∧ (off + cap) * sz ≤ n))
  | .iptr row col, v => ∃ a c e fr, v = .pointer (some a) ∧ a.spot = none ∧ col ≤ a.off ∧ g.fz a.block = some (.cells c e fr) ∧ CellsAt g c (a.off - col) row
  | .optr b sz row col, v => v = .pointer (some ⟨b, row * sz + col, none⟩)
  | .fn f first caps, v => ∃ fs cs, v = .func f fs cs ∧ VRs g first fs.toList ∧ VRs g caps cs.toList
  | .agg cells, v => ∃ vs, v = .agg vs ∧ CellsAt g vs 0 cells ∧ vs.size = cells.length
  | .tup xs, v => ∃ vs, v = .tuple vs ∧ VRs g xs vs.toList
  | .ifc t x, v => ∃ u, v = .iface t u ∧ VR g x u
  | .yld l gb, v => v = .func (.yield l) #[] #[] ∧ gb.cle g
  | .nsl sz rows, v => ∃ A cap, v = .slice A rows.length cap ∧ rows.length ≤ cap ∧
      (rows = [] ∨ ∃ b c e, A = some ⟨b, 0, none⟩ ∧ g.w0.heap.size ≤ b ∧ cap * sz ≤ c.size ∧ g.fz b = some (.cells c e (0, 0)) ∧ RowsAt g c sz 0 rows)
/-- What stands in a row of cells from a place on. -/
def CellsAt (g : Gh) (c : Array Value) : Nat → List AV → Prop
  | _, [] => True
  | o, x :: xs => (∃ v, c[o]? = some v ∧ v.oneCell' = true ∧ VR g x v) ∧ CellsAt g c (o + 1) xs
def RowsAt (g : Gh) (c : Array Value) (sz : Nat) : Nat → List (List AV) → Prop
  | _, [] => True
  | o, r :: rs => r.length = sz ∧ CellsAt g c o r ∧ RowsAt g c sz (o + sz) rs
def VRs (g : Gh) : List AV → List Value → Prop
  | [], [] => True
  | x :: xs, v :: vs => VR g x v ∧ VRs g xs vs
  | _, _ => False
end

theorem Gh.le.cle {g g' : Gh} (h : g.le g') : g.cle g' := ⟨h.w0, fun b _ _ _ => h.fz b _, h.shp⟩
mutual
theorem VR.cmono {g g' : Gh} (h : g.cle g') : ∀ (x : AV) (v : Value), VR g x v → VR g' x v
  | .any, _, _ => by simp [VR]
  | .val u, v, k => by simpa [VR] using k
  | .isl sz rows, v, k => by
    simp only [VR] at k ⊢
    obtain ⟨A, cap, rfl, hc, k⟩ := k
    refine ⟨A, cap, rfl, hc, k.imp id ?_⟩
    rintro ⟨a, c, e, fr, rfl, hs, hf, hr⟩
    exact ⟨a, c, e, fr, rfl, hs, h.fz _ _ _ _ hf, RowsAt.cmono h c sz _ rows hr⟩
  | .osl b sz off len, v, k => by
    simp only [VR] at k ⊢
    obtain ⟨a, cap, rfl, hc, hs, k⟩ := k
    refine ⟨a, cap, rfl, hc, hs, k.imp id ?_⟩
    rintro ⟨rfl, e, n, hn, hle⟩
    exact ⟨rfl, e, n, h.shp _ _ hn, hle⟩
  | .iptr row col, v, k => by
    simp only [VR] at k ⊢
    obtain ⟨a, c, e, fr, rfl, hs, hc, hf, hr⟩ := k
    exact ⟨a, c, e, fr, rfl, hs, hc, h.fz _ _ _ _ hf, CellsAt.cmono h c _ row hr⟩
  | .optr .., v, k => by simpa [VR] using k
  | .fn f first caps, v, k => by
    simp only [VR] at k ⊢
    obtain ⟨fs, cs, rfl, h1, h2⟩ := k
    exact ⟨fs, cs, rfl, VRs.cmono h first _ h1, VRs.cmono h caps _ h2⟩
  | .agg cells, v, k => by
    simp only [VR] at k ⊢
    obtain ⟨vs, rfl, h1, h2⟩ := k
    exact ⟨vs, rfl, CellsAt.cmono h vs _ cells h1, h2⟩
  | .tup xs, v, k => by
    simp only [VR] at k ⊢
    obtain ⟨vs, rfl, h1⟩ := k
    exact ⟨vs, rfl, VRs.cmono h xs _ h1⟩
  | .ifc t x, v, k => by
    simp only [VR] at k ⊢
    obtain ⟨u, rfl, h1⟩ := k
    exact ⟨u, rfl, VR.cmono h x u h1⟩
  | .yld l gb, v, k => by
    simp only [VR] at k ⊢
    exact ⟨k.1, k.2.trans h⟩
  | .nsl sz rows, v, k => by
    simp only [VR] at k ⊢
    obtain ⟨A, cap, rfl, hc, k⟩ := k
    refine ⟨A, cap, rfl, hc, k.imp id ?_⟩
    rintro ⟨b, c, e, rfl, hs, hk, hf, hr⟩
    exact ⟨b, c, e, rfl, by rw [h.w0]; exact hs, hk, h.fz _ _ _ _ hf, RowsAt.cmono h c sz _ rows hr⟩
theorem CellsAt.cmono {g g' : Gh} (h : g.cle g') (c : Array Value) : ∀ (o : Nat) (xs : List AV), CellsAt g c o xs → CellsAt g' c o xs
  | _, [], _ => by simp [CellsAt]
  | o, x :: xs, k => by
    simp only [CellsAt] at k ⊢
    obtain ⟨⟨v, h1, h2, h3⟩, k2⟩ := k
    exact ⟨⟨v, h1, h2, VR.cmono h x v h3⟩, CellsAt.cmono h c (o + 1) xs k2⟩
theorem RowsAt.cmono {g g' : Gh} (h : g.cle g') (c : Array Value) (sz : Nat) : ∀ (o : Nat) (xs : List (List AV)), RowsAt g c sz o xs → RowsAt g' c sz o xs
  | _, [], _ => by simp [RowsAt]
  | o, r :: rs, k => by
    simp only [RowsAt] at k ⊢
    exact ⟨k.1, CellsAt.cmono h c o r k.2.1, RowsAt.cmono h c sz (o + sz) rs k.2.2⟩
theorem VRs.cmono {g g' : Gh} (h : g.cle g') : ∀ (xs : List AV) (vs : List Value), VRs g xs vs → VRs g' xs vs
  | [], [], _ => by simp [VRs]
  | x :: xs, v :: vs, k => by
    simp only [VRs] at k ⊢
    exact ⟨VR.cmono h x v k.1, VRs.cmono h xs vs k.2⟩
  | [], _ :: _, k => by simp [VRs] at k
  | _ :: _, [], k => by simp [VRs] at k
end

theorem VR.mono {g g' : Gh} (h : g.le g') (x : AV) (v : Value) : VR g x v → VR g' x v := VR.cmono h.cle x v
theorem CellsAt.mono {g g' : Gh} (h : g.le g') (c : Array Value) (o : Nat) (xs : List AV) : CellsAt g c o xs → CellsAt g' c o xs := CellsAt.cmono h.cle c o xs
theorem RowsAt.mono {g g' : Gh} (h : g.le g') (c : Array Value) (sz : Nat) (o : Nat) (xs : List (List AV)) : RowsAt g c sz o xs → RowsAt g' c sz o xs := RowsAt.cmono h.cle c sz o xs
theorem VRs.mono {g g' : Gh} (h : g.le g') (xs : List AV) (vs : List Value) : VRs g xs vs → VRs g' xs vs := VRs.cmono h.cle xs vs

/-- An owned block: rows of so many cells. -/
structure Ob where
  sz : Nat
  rows : List (List AV)
  /-- the type of the cells' rows, where it is known; of a variable how many cells -/
  ty : Option (Nat × Nat)

/-- what is told of a block's type -/
def TyOK (x : Option (TypeId × Nat)) (ty : Option (Nat × Nat)) : Prop := ∀ t k, ty = some (t, k) → ∃ n, x = some (t, n) ∧ (k ≠ 0 → n = k)
theorem TyOK.none (x : Option (TypeId × Nat)) : TyOK x .none := fun _ _ h => by cases h
theorem TyOK.mono {x x' : Option (TypeId × Nat)} {ty : Option (Nat × Nat)} (h : TyOK x ty) (k : ∀ y, x = some y → x' = some y) : TyOK x' ty := fun t m e => by
  obtain ⟨n, h1, h2⟩ := h t m e
  exact ⟨n, k _ h1, h2⟩
/-- the type behind an append -/
def keepTy (e : Nat) (ty : Option (Nat × Nat)) : Option (Nat × Nat) := if ty = some (e, 0) then some (e, 0) else .none
theorem keepTy_same (e : Nat) : keepTy e (some (e, 0)) = some (e, 0) := by simp [keepTy]
theorem keepTy_none (e : Nat) : keepTy e .none = .none := by simp [keepTy]
theorem TyOK.keep {x : Option (TypeId × Nat)} {ty : Option (Nat × Nat)} {e : Nat} (h : TyOK x ty) : TyOK x (keepTy e ty) := by
  unfold keepTy
  split
  · rename_i q; subst q; exact h
  · exact TyOK.none x
theorem TyOK.keep' {e n : Nat} {ty : Option (Nat × Nat)} : TyOK (some (e, n)) (keepTy e ty) := by
  unfold keepTy
  split
  · exact fun t k h => by cases h; exact ⟨n, rfl, fun h => absurd rfl h⟩
  · exact TyOK.none _
theorem TyOK.row (e n : Nat) : TyOK (some (e, n)) (some (e, 0)) := fun t k h => by cases h; exact ⟨n, rfl, fun h => absurd rfl h⟩
theorem TyOK.var (e n : Nat) : TyOK (some (e, n)) (some (e, n)) := fun t k h => by cases h; exact ⟨n, rfl, fun _ => rfl⟩

/-- An abstract heap: blocks of cells that are owned; objects of other kinds (maps, iterators, loops' records), told as they are. -/
structure Hp where
  c : Nat → Option Ob
  r : Nat → Option Obj
instance : CoeFun Hp (fun _ => Nat → Option Ob) := ⟨Hp.c⟩
theorem Hp.ext {h h' : Hp} (a : ∀ b, h b = h' b) (b : ∀ b, h.r b = h'.r b) : h = h' := by
  cases h; cases h'
  congr
  · exact funext a
  · exact funext b
def Hp.nil : Hp := ⟨fun _ => none, fun _ => none⟩
def Hp.upd (h : Hp) (b : Nat) (o : Ob) : Hp := ⟨fun k => if k = b then some o else h k, h.r⟩
def Hp.updR (h : Hp) (b : Nat) (o : Obj) : Hp := ⟨h.c, fun k => if k = b then some o else h.r k⟩
def Hp.delR (h : Hp) (b : Nat) : Hp := ⟨h.c, fun k => if k = b then none else h.r k⟩
theorem Hp.updR_same (h : Hp) (b : Nat) (o : Obj) : (h.updR b o).r b = some o := by simp [Hp.updR]
theorem Hp.updR_ne (h : Hp) {b b' : Nat} (o : Obj) (e : b' ≠ b) : (h.updR b o).r b' = h.r b' := by simp [Hp.updR, e]
def Hp.del (h : Hp) (b : Nat) : Hp := ⟨fun k => if k = b then none else h k, h.r⟩
structure Hp.sub (h h' : Hp) : Prop where
  c : ∀ b o, h b = some o → h' b = some o
  r : ∀ b o, h.r b = some o → h'.r b = some o
instance {h h' : Hp} : CoeFun (h.sub h') (fun _ => ∀ b o, h b = some o → h' b = some o) := ⟨Hp.sub.c⟩
def notCells : Obj → Bool
  | .cells .. => false
  | _ => true

@[simp] theorem Hp.upd_same (h : Hp) (b : Nat) (o : Ob) : h.upd b o b = some o := by simp [Hp.upd]
theorem Hp.upd_ne (h : Hp) {b b' : Nat} (o : Ob) (hne : b' ≠ b) : h.upd b o b' = h b' := by simp [Hp.upd, hne]
theorem Hp.upd_old {h : Hp} {b b' : Nat} {o o' : Ob} (hb : h b = none) (hb' : h b' = some o') : h.upd b o b' = some o' := by
  rw [Hp.upd_ne]; exact hb'
  intro e; subst e; rw [hb] at hb'; cases hb'
theorem Hp.sub.refl (h : Hp) : h.sub h := ⟨fun _ _ k => k, fun _ _ k => k⟩
theorem Hp.sub.trans {a b c : Hp} (h : a.sub b) (k : b.sub c) : a.sub c := ⟨fun x o hx => k x o (h x o hx), fun x o hx => k.r x o (h.r x o hx)⟩
theorem Hp.sub.upd {h0 h : Hp} (k : h0.sub h) {b : Nat} (o : Ob) (hb : h0 b = none) : h0.sub (h.upd b o) := by
  refine ⟨fun x ox hx => ?_, k.r⟩
  rw [Hp.upd_ne]; exact k x ox hx
  intro e; subst e; rw [hb] at hx; cases hx
theorem Hp.sub.none {h0 h : Hp} (k : h0.sub h) {b : Nat} (hb : h b = none) : h0 b = none := by
  cases e : h0 b with
  | none => rfl
  | some o => rw [k b o e] at hb; cases hb

/-- a block of cells of which none is frozen -/
def Thawed (fr : Nat × Nat) (n : Nat) : Prop := fr.2 ≤ fr.1 ∨ n ≤ fr.1
def CellsIn (w : World) (b : Nat) (c : Array Value) (e : TypeId) : Prop := ∃ fr, w.heap[b]? = some (.cells c e fr) ∧ Thawed fr c.size
theorem CellsIn.of {w w' : World} {b : Nat} {c : Array Value} {e : TypeId} (h : CellsIn w b c e) (k : ∀ o, w.heap[b]? = some o → w'.heap[b]? = some o) : CellsIn w' b c e :=
  let ⟨fr, a, t⟩ := h; ⟨fr, k _ a, t⟩
theorem CellsIn.plain {w : World} {b : Nat} {c : Array Value} {e : TypeId} (h : w.heap[b]? = some (.cells c e (0, 0))) : CellsIn w b c e := ⟨_, h, .inl (Nat.le_refl _)⟩

structure HR (g : Gh) (h : Hp) (w : World) : Prop where
  os : w.os = g.w0.os
  tape : w.tape = g.w0.tape
  output : w.output = g.w0.output
  size : g.w0.heap.size ≤ w.heap.size
  fz : ∀ b o, g.fz b = some o → w.heap[b]? = some o
  shp : ∀ b x, g.shp b = some x → w.shape? b = some x
  ob : ∀ b o, h b = some o → (g.fz b = none ∧ TyOK (g.shp b) o.ty) ∧ ∃ c e, CellsIn w b c e ∧ g.shp b = some (e, c.size) ∧ RowsAt g c o.sz 0 o.rows
  gl : Glob g.fz
  raw : ∀ b o, h.r b = some o → (w.heap[b]? = some o ∧ notCells o = true) ∧ g.fz b = none

theorem HR.raw_ne {g : Gh} {h : Hp} {w : World} (k : HR g h w) {b x : Nat} {o : Ob} {y : Obj} (hb : h b = some o) (hx : h.r x = some y) : x ≠ b := by
  rintro rfl
  obtain ⟨_, c, e, ⟨fr, a, _⟩, _⟩ := k.ob _ o hb
  have := (k.raw _ y hx).1
  rw [a] at this
  cases this.1; simp [notCells] at this
theorem HR.forget {g : Gh} {h h' : Hp} {w : World} (k : HR g h w) (hs : h'.sub h) : HR g h' w :=
  { k with ob := fun b o hb => k.ob b o (hs b o hb), raw := fun b o hb => k.raw b o (hs.r b o hb) }

theorem HR.drew {g : Gh} {h : Hp} {w : World} (k : HR g h w) : HR g h { w with drawn := w.drawn + 1 } :=
  { os := k.os, tape := k.tape, output := k.output, size := k.size, fz := k.fz, shp := k.shp, ob := k.ob, gl := k.gl, raw := k.raw }

/-! ### cells and rows -/
theorem CellsAt.get {g : Gh} {c : Array Value} : ∀ {o : Nat} {xs : List AV} {k : Nat} {x : AV}, CellsAt g c o xs → xs[k]? = some x → ∃ v, c[o + k]? = some v ∧ v.oneCell' = true ∧ VR g x v
  | o, y :: ys, 0, x, h, e => by
    simp only [CellsAt] at h
    simp at e; subst e; simpa using h.1
  | o, y :: ys, k + 1, x, h, e => by
    simp only [CellsAt] at h
    have := CellsAt.get (o := o + 1) (k := k) h.2 (by simpa using e)
    rwa [Nat.add_assoc, Nat.add_comm 1 k] at this

theorem CellsAt.of_get {g : Gh} {c : Array Value} : ∀ {o : Nat} {xs : List AV}, (∀ k x, xs[k]? = some x → ∃ v, c[o + k]? = some v ∧ v.oneCell' = true ∧ VR g x v) → CellsAt g c o xs
  | _, [], _ => by simp [CellsAt]
  | o, x :: xs, h => by
    simp only [CellsAt]
    refine ⟨by simpa using h 0 x (by simp), CellsAt.of_get fun k y hy => ?_⟩
    have := h (k + 1) y (by simpa using hy)
    rwa [Nat.add_comm k 1, ← Nat.add_assoc] at this

theorem CellsAt.bound {g : Gh} {c : Array Value} {o : Nat} {xs : List AV} (h : CellsAt g c o xs) : xs = [] ∨ o + xs.length ≤ c.size := by
  by_cases e : xs = []
  · exact .inl e
  · right
    have hl : 0 < xs.length := List.length_pos_iff.2 e
    obtain ⟨v, hv, _⟩ := h.get (k := xs.length - 1) (x := xs[xs.length - 1]) (List.getElem?_eq_getElem (by omega))
    have := (Array.getElem?_eq_some_iff.1 hv).1
    omega

theorem CellsAt.congr {g : Gh} {c c' : Array Value} {o o' : Nat} {xs : List AV} (h : CellsAt g c o xs) (e : ∀ k, k < xs.length → c'[o' + k]? = c[o + k]?) : CellsAt g c' o' xs :=
  CellsAt.of_get fun k x hx => by
    rw [e k (List.getElem?_eq_some_iff.1 hx).1]; exact h.get hx

theorem CellsAt.drop {g : Gh} {c : Array Value} {o : Nat} {xs : List AV} (h : CellsAt g c o xs) (k : Nat) : CellsAt g c (o + k) (xs.drop k) :=
  CellsAt.of_get fun j x hx => by
    rw [List.getElem?_drop] at hx
    have := h.get hx
    rwa [← Nat.add_assoc] at this
theorem CellsAt.take {g : Gh} {c : Array Value} {o : Nat} {xs : List AV} (h : CellsAt g c o xs) (k : Nat) : CellsAt g c o (xs.take k) :=
  CellsAt.of_get fun j x hx => h.get (by rw [List.getElem?_take] at hx; split at hx; exact hx; cases hx)
theorem CellsAt.append {g : Gh} {c : Array Value} {o : Nat} {xs ys : List AV} (h : CellsAt g c o xs) (k : CellsAt g c (o + xs.length) ys) : CellsAt g c o (xs ++ ys) :=
  CellsAt.of_get fun j x hx => by
    rw [List.getElem?_append] at hx
    split at hx
    · exact h.get hx
    · have := k.get hx
      rwa [show o + xs.length + (j - xs.length) = o + j from by omega] at this

theorem RowsAt.get {g : Gh} {c : Array Value} {sz : Nat} : ∀ {o : Nat} {rs : List (List AV)} {i : Nat} {r : List AV}, RowsAt g c sz o rs → rs[i]? = some r → r.length = sz ∧ CellsAt g c (o + i * sz) r
  | o, y :: ys, 0, r, h, e => by
    simp only [RowsAt] at h
    simp at e; subst e; exact ⟨h.1, by simpa using h.2.1⟩
  | o, y :: ys, i + 1, r, h, e => by
    simp only [RowsAt] at h
    have := RowsAt.get (o := o + sz) (i := i) h.2.2 (by simpa using e)
    rwa [Nat.add_assoc, show sz + i * sz = (i + 1) * sz from by rw [Nat.add_mul]; omega] at this

theorem RowsAt.of_get {g : Gh} {c : Array Value} {sz : Nat} : ∀ {o : Nat} {rs : List (List AV)}, (∀ i r, rs[i]? = some r → r.length = sz ∧ CellsAt g c (o + i * sz) r) → RowsAt g c sz o rs
  | _, [], _ => by simp [RowsAt]
  | o, r :: rs, h => by
    simp only [RowsAt]
    have h0 := h 0 r (by simp)
    refine ⟨h0.1, by simpa using h0.2, RowsAt.of_get fun i q hq => ?_⟩
    have := h (i + 1) q (by simpa using hq)
    rwa [show o + (i + 1) * sz = o + sz + i * sz from by rw [Nat.add_mul]; omega] at this

theorem RowsAt.congr {g : Gh} {c c' : Array Value} {sz o o' : Nat} {rs : List (List AV)} (h : RowsAt g c sz o rs) (e : ∀ k, k < rs.length * sz → c'[o' + k]? = c[o + k]?) : RowsAt g c' sz o' rs :=
  RowsAt.of_get fun i r hr => by
    have := h.get hr
    have hi := (List.getElem?_eq_some_iff.1 hr).1
    refine ⟨this.1, this.2.congr fun k hk => ?_⟩
    have hlt : i * sz + k < rs.length * sz := by
      have : (i + 1) * sz ≤ rs.length * sz := Nat.mul_le_mul_right _ hi
      rw [Nat.add_mul] at this; omega
    have := e (i * sz + k) hlt
    rwa [← Nat.add_assoc, ← Nat.add_assoc] at this

theorem RowsAt.drop {g : Gh} {c : Array Value} {sz o : Nat} {rs : List (List AV)} (h : RowsAt g c sz o rs) (k : Nat) : RowsAt g c sz (o + k * sz) (rs.drop k) :=
  RowsAt.of_get fun i r hr => by
    rw [List.getElem?_drop] at hr
    have := h.get hr
    rwa [Nat.add_mul, ← Nat.add_assoc] at this
theorem RowsAt.take {g : Gh} {c : Array Value} {sz o : Nat} {rs : List (List AV)} (h : RowsAt g c sz o rs) (k : Nat) : RowsAt g c sz o (rs.take k) :=
  RowsAt.of_get fun i r hr => h.get (by rw [List.getElem?_take] at hr; split at hr; exact hr; cases hr)
theorem RowsAt.append {g : Gh} {c : Array Value} {sz o : Nat} {rs qs : List (List AV)} (h : RowsAt g c sz o rs) (k : RowsAt g c sz (o + rs.length * sz) qs) : RowsAt g c sz o (rs ++ qs) :=
  RowsAt.of_get fun i r hr => by
    rw [List.getElem?_append] at hr
    split at hr
    · exact h.get hr
    · rename_i hlt
      have := k.get hr
      rwa [Nat.add_assoc, ← Nat.add_mul, show rs.length + (i - rs.length) = i from by omega] at this

theorem RowsAt.bound {g : Gh} {c : Array Value} {sz o : Nat} {rs : List (List AV)} (h : RowsAt g c sz o rs) : rs.length * sz = 0 ∨ o + rs.length * sz ≤ c.size := by
  by_cases e : rs = []
  · subst e; simp
  · have hl : 0 < rs.length := List.length_pos_iff.2 e
    have := h.get (i := rs.length - 1) (r := rs[rs.length - 1]) (List.getElem?_eq_getElem (by omega))
    rcases this.2.bound with h0 | hb
    · left
      have : sz = 0 := by rw [← this.1, h0]; rfl
      simp [this]
    · right
      rw [this.1] at hb
      have e2 : rs.length * sz = (rs.length - 1) * sz + sz := by
        rw [← Nat.succ_mul]; congr 1; omega
      omega

theorem VRs.get {g : Gh} : ∀ {xs : List AV} {vs : List Value} {k : Nat} {x : AV}, VRs g xs vs → xs[k]? = some x → ∃ v, vs[k]? = some v ∧ VR g x v
  | x :: xs, v :: vs, 0, y, h, e => by simp only [VRs] at h; simp at e; subst e; exact ⟨v, by simp, h.1⟩
  | x :: xs, v :: vs, k + 1, y, h, e => by
    simp only [VRs] at h
    obtain ⟨u, hu, hv⟩ := VRs.get h.2 (by simpa using e)
    exact ⟨u, by simpa using hu, hv⟩
theorem VRs.length {g : Gh} : ∀ {xs : List AV} {vs : List Value}, VRs g xs vs → xs.length = vs.length
  | [], [], _ => rfl
  | x :: xs, v :: vs, h => by simp only [VRs] at h; simp [VRs.length h.2]
theorem VRs.append {g : Gh} : ∀ {xs ys : List AV} {vs us : List Value}, VRs g xs vs → VRs g ys us → VRs g (xs ++ ys) (vs ++ us)
  | [], _, [], _, _, k => k
  | x :: xs, _, v :: vs, _, h, k => by simp only [VRs] at h; exact ⟨h.1, VRs.append h.2 k⟩
theorem VRs.map {g : Gh} {α : Type} (f : α → AV) (k : α → Value) : ∀ (l : List α), (∀ x ∈ l, VR g (f x) (k x)) → VRs g (l.map f) (l.map k)
  | [], _ => trivial
  | x :: l, h => ⟨h x (by simp), VRs.map f k l fun y hy => h y (by simp [hy])⟩

end Go.Proofs.YtggcmnoacplbkaaDoor.AM
