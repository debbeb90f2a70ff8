/- The abstract machine, part 1: types' tables; the operations that neither write nor make memory, and what they come to in the model. -/
import Derived.Test.YtggcmnoacplbkaaDoorAm0
import Derived.Deep.AppendSrc
import Derived.Laws.StructEq
namespace Go.Proofs.YtggcmnoacplbkaaDoor.AM
open Go
set_option linter.unusedVariables false
set_option linter.unusedSimpArgs false

inductive TK where
  | one
  | int (k : IntKind)
  | bool
  | str
  | sl (e : Nat)
  | ptr (e : Nat)
  | arr (n e : Nat)
  | struct (fs : List (Nat × Nat))
  | map (k e : Nat)
  | func
  | iface

structure TI where
  size : Nat
  bytes : Nat
  zero : List Value
  kind : TK
  eqs : Option (List (Nat × TK)) := none

def TK.agg : TK → Bool
  | .arr .. | .struct .. => true
  | _ => false

def kindOf : TypeDesc → TK
  | .int k => .int k
  | .bool => .bool
  | .string => .str
  | .slice e => .sl e
  | .pointer e => .ptr e
  | .array n e => .arr n e
  | .struct fs => .struct (fs.toList.map fun f => (f.offset, f.type))
  | .map k e => .map k e
  | .func .. => .func
  | .interface _ => .iface
  | _ => .one

def isAggV : Value → Bool
  | .agg _ => true
  | _ => false
def zeroOk (d : TypeDesc) (size : Nat) (z : Value) : Bool :=
  z.cells.size == size && z.cells.all (·.oneCell') && (isAggV z == (kindOf d).agg)

/-- the fields of a struct that '==' holds against each other, if all are plain -/
def eqField (P : Program) (f : Field) : Option (Nat × TK) :=
  if f.name = "_" then none else match P.underlying f.type with
    | some (.int k) => some (f.offset, .int k)
    | some .bool => some (f.offset, .bool)
    | some .string => some (f.offset, .str)
    | _ => none
def eqsOf (P : Program) (t : Nat) (d : TypeDesc) : Option (List (Nat × TK)) :=
  match d with
  | .struct fs => match fs.toList.mapM (eqField P) with
    | some es => if P.stoodInHeld t || P.eqGuardType P.depth t then none else some es
    | none => none
  | _ => none

def mkTI (P : Program) (t : Nat) : Option TI :=
  match P.info? t, P.underlying t with
  | some i, some d => match i.zero with
    | some z => if zeroOk d i.size z then some ⟨i.size, i.bytes, z.cells.toList, kindOf d, eqsOf P t d⟩ else none
    | none => none
  | _, _ => none

abbrev Tab := Nat → Option TI
def TabOK (P : Program) (T : Tab) : Prop := ∀ t ti, T t = some ti → mkTI P t = some ti

structure TIs (P : Program) (t : Nat) (ti : TI) (i : TypeInfo) (d : TypeDesc) (z : Value) : Prop where
  info : P.info? t = some i
  und : P.underlying t = some d
  zero : i.zero = some z
  size : i.size = ti.size
  bytes : i.bytes = ti.bytes
  zcells : z.cells.toList = ti.zero
  kind : kindOf d = ti.kind
  eqs : eqsOf P t d = ti.eqs
  zsize : z.cells.size = ti.size
  zone : ∀ v ∈ ti.zero, v.oneCell' = true
  zagg : isAggV z = ti.kind.agg

theorem TabOK.get {P : Program} {T : Tab} (h : TabOK P T) {t : Nat} {ti : TI} (e : T t = some ti) : ∃ i d z, TIs P t ti i d z := by
  have := h t ti e
  unfold mkTI at this
  split at this
  · rename_i i d hi hd
    split at this
    · rename_i z hz
      split at this
      · rename_i hok
        simp only [zeroOk, Bool.and_eq_true, beq_iff_eq] at hok
        obtain ⟨⟨h1, h2⟩, h3⟩ := hok
        cases this
        exact ⟨i, d, z, hi, hd, hz, rfl, rfl, rfl, rfl, rfl, h1, fun v hv => (Array.all_eq_true_iff_forall_mem.1 h2) v (by simpa using hv), by simpa using h3⟩
      · cases this
    · cases this
  · cases this

section
variable {P : Program} {T : Tab} {t : Nat} {ti : TI} {i : TypeInfo} {d : TypeDesc} {z : Value} (h : TIs P t ti i d z) (w : World)
include h
theorem TIs.run_und : (underlying t).run P w = .ok d w := run_underlying h.und w
theorem TIs.run_size : (sizeOf t).run P w = .ok ti.size w := by simp [sizeOf, typeInfo, h.info, h.size]
theorem TIs.run_info : (typeInfo t).run P w = .ok i w := by simp [typeInfo, h.info]
theorem TIs.run_zero : (zeroValue t).run P w = .ok z w := by simp [zeroValue, typeInfo, h.info, h.zero]
theorem TIs.run_agg : (isAgg t).run P w = .ok ti.kind.agg w := by
  unfold isAgg
  rw [Sem.run_bind, h.run_und w, ← h.kind]
  cases d <;> simp [kindOf, TK.agg]
theorem TIs.sl {e : Nat} (hk : ti.kind = .sl e) : d = .slice e := by
  have := h.kind; rw [hk] at this; cases d <;> simp [kindOf] at this; rw [this]
theorem TIs.arr {n e : Nat} (hk : ti.kind = .arr n e) : d = .array n e := by
  have := h.kind; rw [hk] at this; cases d <;> simp [kindOf] at this; rw [this.1, this.2]
theorem TIs.ptr {e : Nat} (hk : ti.kind = .ptr e) : d = .pointer e := by
  have := h.kind; rw [hk] at this; cases d <;> simp [kindOf] at this; rw [this]
theorem TIs.str (hk : ti.kind = .str) : d = .string := by
  have := h.kind; rw [hk] at this; cases d <;> simp [kindOf] at this; rfl
theorem TIs.int {k : IntKind} (hk : ti.kind = .int k) : d = .int k := by
  have := h.kind; rw [hk] at this; cases d <;> simp [kindOf] at this; rw [this]
theorem TIs.boolean (hk : ti.kind = .bool) : d = .bool := by
  have := h.kind; rw [hk] at this; cases d <;> simp [kindOf] at this; rfl
theorem TIs.map {k e : Nat} (hk : ti.kind = .map k e) : d = .map k e := by
  have := h.kind; rw [hk] at this; cases d <;> simp [kindOf] at this; rw [this.1, this.2]
theorem TIs.struct {fs : List (Nat × Nat)} (hk : ti.kind = .struct fs) : ∃ fields, d = .struct fields ∧ fields.toList.map (fun f => (f.offset, f.type)) = fs := by
  have := h.kind; rw [hk] at this; cases d <;> simp [kindOf] at this; exact ⟨_, rfl, this⟩
end

/-! ### operands -/
def constAV : Value → AV
  | .agg cs => if cs.all Value.oneCell' then .agg (cs.toList.map .val) else .any
  | v => .val v
def ev (tm : List AV) : Operand → AV
  | .tmp t => tm.getD t .any
  | .const v => constAV v
  | .global _ => .any
  | .func f => .fn (.func f) [] []

structure TR (g : Gh) (tm : List AV) (tmps : Array Value) : Prop where
  len : tmps.size = tm.length
  at_ : ∀ (k : Nat) (x : AV), tm[k]? = some x → ∃ v, tmps[k]? = some v ∧ VR g x v

theorem VR.vals (g : Gh) (cs : Array Value) (h : cs.all Value.oneCell' = true) : CellsAt g cs 0 (cs.toList.map .val) :=
  CellsAt.of_get fun k x hx => by
    rw [List.getElem?_map] at hx
    cases e : cs.toList[k]? with
    | none => rw [e] at hx; cases hx
    | some v =>
      rw [e] at hx; cases hx
      refine ⟨v, by simpa using e, (Array.all_eq_true_iff_forall_mem.1 h) v ?_, by simp [VR]⟩
      have := List.mem_of_getElem? e; simpa using this

theorem constAV_ok (g : Gh) (v : Value) : VR g (constAV v) v := by
  cases v <;> simp only [constAV] <;> try (simp [VR]; done)
  rename_i cs
  split
  · rename_i h
    exact by simp only [VR]; exact ⟨cs, rfl, VR.vals g cs h, by simp⟩
  · simp [VR]

theorem TR.ev {g : Gh} {tm : List AV} {a : Act} (h : TR g tm a.tmps) (x : Operand) : VR g (ev tm x) (a.eval x) := by
  cases x with
  | tmp t =>
    simp only [AM.ev, Act.eval, List.getD]
    cases e : tm[t]? with
    | none => simp [VR]
    | some y =>
      obtain ⟨v, hv, hr⟩ := h.at_ t y e
      simpa [hv] using hr
  | const v => exact constAV_ok g v
  | global n => simp [AM.ev, VR]
  | func f => simp only [AM.ev, Act.eval, VR]; exact ⟨#[], #[], rfl, by simp [VRs], by simp [VRs]⟩

theorem TR.mono {g g' : Gh} {tm : List AV} {tmps : Array Value} (h : TR g tm tmps) (k : g.le g') : TR g' tm tmps :=
  ⟨h.len, fun i x hx => let ⟨v, hv, hr⟩ := h.at_ i x hx; ⟨v, hv, hr.mono k _ _⟩⟩

def put (tm : List AV) (d : Option Nat) (v : AV) : List AV := match d with | some d => tm.set d v | none => tm

theorem TR.put {g : Gh} {tm : List AV} {a : Act} (h : TR g tm a.tmps) (d : Option Nat) {x : AV} {v : Value} (hv : VR g x v) : TR g (put tm d x) (a.put d v).tmps := by
  cases d with
  | none => exact h
  | some d =>
    refine ⟨by simp [Act.put, AM.put, h.len], fun k y hy => ?_⟩
    simp only [AM.put, List.getElem?_set] at hy
    simp only [Act.put, Array.getElem?_setIfInBounds]
    split at hy
    · rename_i e
      subst e
      split at hy
      · rename_i hl
        cases hy
        exact ⟨v, by simp [h.len, hl], hv⟩
      · cases hy
    · rename_i e
      obtain ⟨u, hu, hr⟩ := h.at_ k y hy
      exact ⟨u, by simp [e, hu], hr⟩

theorem TR.evs {g : Gh} {tm : List AV} {a : Act} (h : TR g tm a.tmps) : ∀ (xs : List Operand), VRs g (xs.map (AM.ev tm)) (xs.map a.eval)
  | [] => trivial
  | x :: xs => ⟨h.ev x, h.evs xs⟩

/-! ### cells of a value -/
def AV.cells : AV → List AV
  | .agg cs => cs
  | x => [x]
/-- known to be one cell's value -/
def AV.one : AV → Bool
  | .any | .agg _ | .tup _ => false
  | .val v => v.oneCell'
  | _ => true
def AV.okCells : AV → Bool
  | .agg _ => true
  | x => x.one

theorem VR.one {g : Gh} {x : AV} {v : Value} (h : VR g x v) (k : x.one = true) : v.oneCell' = true := by
  cases x <;> simp only [AV.one, Bool.false_eq_true] at k <;> simp only [VR] at h
  · subst h; exact k
  · obtain ⟨_, _, rfl, _⟩ := h; rfl
  · obtain ⟨_, _, rfl, _⟩ := h; rfl
  · obtain ⟨_, _, _, _, rfl, _⟩ := h; rfl
  · subst h; rfl
  · obtain ⟨_, _, rfl, _⟩ := h; rfl
  · obtain ⟨_, rfl, _⟩ := h; rfl
  · obtain ⟨rfl, _⟩ := h; rfl
  · obtain ⟨_, _, rfl, _⟩ := h; rfl

theorem Value.cells_one {v : Value} (h : v.oneCell' = true) : v.cells = #[v] := by
  cases v <;> simp [Value.oneCell'] at h <;> rfl

theorem VR.okCells {g : Gh} {x : AV} {v : Value} (h : VR g x v) (k : x.okCells = true) : CellsAt g v.cells 0 x.cells ∧ v.cells.size = x.cells.length := by
  have key : x.one = true → x.cells = [x] → CellsAt g v.cells 0 x.cells ∧ v.cells.size = x.cells.length := by
    intro h1 h2
    have := VR.one h h1
    rw [h2, Value.cells_one this]
    refine ⟨?_, rfl⟩
    simp only [CellsAt]
    exact ⟨⟨v, rfl, this, h⟩, trivial⟩
  cases x with
  | agg cs =>
    simp only [VR] at h
    obtain ⟨vs, rfl, h1, h2⟩ := h
    exact ⟨h1, h2⟩
  | _ => exact key k rfl

/-! ### the operations -/
def abin (op : BinOp) (tk : TK) (x y : AV) : Option AV :=
  match x, y with
  | .val (.int k a), .val (.int k' b) =>
    match op with
    | .shl => if 0 ≤ b then some (.val (.int k (k.wrap (a * 2 ^ (min b.toNat k.bits))))) else none
    | .shr => if 0 ≤ b then some (.val (.int k (a.fdiv (2 ^ (min b.toNat k.bits))))) else none
    | op => if k = k' then
      match op with
      | .add => some (.val (.int k (k.wrap (a + b))))
      | .sub => some (.val (.int k (k.wrap (a - b))))
      | .mul => some (.val (.int k (k.wrap (a * b))))
      | .quo => if b = 0 then none else some (.val (.int k (k.wrap (a.tdiv b))))
      | .rem => if b = 0 then none else some (.val (.int k (a.tmod b)))
      | .and => some (.val (.int k (k.wrap (BitVec.ofInt k.bits a &&& BitVec.ofInt k.bits b).toNat)))
      | .or => some (.val (.int k (k.wrap (BitVec.ofInt k.bits a ||| BitVec.ofInt k.bits b).toNat)))
      | .xor => some (.val (.int k (k.wrap (BitVec.ofInt k.bits a ^^^ BitVec.ofInt k.bits b).toNat)))
      | .andNot => some (.val (.int k (k.wrap (BitVec.ofInt k.bits a &&& ~~~ BitVec.ofInt k.bits b).toNat)))
      | .eql => some (abool (a == b))
      | .neq => some (abool (a != b))
      | .lss => some (abool (decide (a < b)))
      | .leq => some (abool (decide (a ≤ b)))
      | .gtr => some (abool (decide (a > b)))
      | .geq => some (abool (decide (a ≥ b)))
      | _ => none
      else none
  | .val (.string a), .val (.string b) =>
    match op with
    | .add => if a.size + b.size ≤ 9223372036854775807 then some (astr (a ++ b)) else none
    | .eql => some (abool (a.toList == b.toList))
    | .neq => some (abool (!(a.toList == b.toList)))
    | .lss => some (abool (Op.bytesLess a.toList b.toList))
    | .leq => some (abool (Op.bytesLess a.toList b.toList || a.toList == b.toList))
    | .gtr => some (abool (!(Op.bytesLess a.toList b.toList || a.toList == b.toList)))
    | .geq => some (abool (!Op.bytesLess a.toList b.toList))
    | _ => none
  | .val (.bool a), .val (.bool b) =>
    match op, tk with
    | .eql, .bool => some (abool (a == b))
    | .neq, .bool => some (abool (!(a == b)))
    | _, _ => none
  | .val (.slice none 0 0), .val (.slice none 0 0) => match op, tk with | .eql, .sl _ => some (abool true) | .neq, .sl _ => some (abool false) | _, _ => none
  | .osl .., .val (.slice none 0 0) => match op, tk with | .eql, .sl _ => some (abool false) | .neq, .sl _ => some (abool true) | _, _ => none
  | .isl _ (_ :: _), .val (.slice none 0 0) => match op, tk with | .eql, .sl _ => some (abool false) | .neq, .sl _ => some (abool true) | _, _ => none
  | .optr .., .val (.pointer none) => match op, tk with | .eql, .ptr _ => some (abool false) | .neq, .ptr _ => some (abool true) | _, _ => none
  | .iptr .., .val (.pointer none) => match op, tk with | .eql, .ptr _ => some (abool false) | .neq, .ptr _ => some (abool true) | _, _ => none
  | .val (.pointer none), .val (.pointer none) => match op, tk with | .eql, .ptr _ => some (abool true) | .neq, .ptr _ => some (abool false) | _, _ => none
  | .fn .., .val .nilFunc => match op, tk with | .eql, .func => some (abool false) | .neq, .func => some (abool true) | _, _ => none
  | _, _ => none

def aeqs : List (Nat × TK) → List AV → List AV → Option Bool
  | [], _, _ => some true
  | (off, k) :: es, xs, ys => match k, xs[off]?, ys[off]?, aeqs es xs ys with
    | .int _, some (.val (.int j a)), some (.val (.int k b)), some r => if j = k then some (decide (a = b) && r) else none
    | .str, some (.val (.string a)), some (.val (.string b)), some r => some (decide (a.toList = b.toList) && r)
    | .bool, some (.val (.bool a)), some (.val (.bool b)), some r => some (decide (a = b) && r)
    | _, _, _, _ => none
def abin2 (op : BinOp) (ti : TI) (x y : AV) : Option AV :=
  match x, y with
  | .agg xs, .agg ys => match op, ti.eqs with
    | .eql, some es => (aeqs es xs ys).map abool
    | .neq, some es => (aeqs es xs ys).map fun r => abool (!r)
    | _, _ => none
  | x, y => abin op ti.kind x y

def aun (op : UnOp) (x : AV) : Option AV :=
  match op, x with
  | .neg, .val (.int k n) => some (.val (.int k (k.wrap (0 - n))))
  | .not, .val (.bool b) => some (abool (!b))
  | _, _ => none

/-- a part of a row of cells, of a type -/
def apart (ti : TI) (cs : List AV) (off : Nat) : Option AV :=
  if ti.kind.agg then (if off + ti.size ≤ cs.length then some (.agg ((cs.drop off).take ti.size)) else none) else cs[off]?

def afield (T : Tab) (t : Nat) (f : Nat) : Option (Nat × TI) :=
  match T t with
  | some ti => match ti.kind with
    | .struct fs => match fs[f]? with
      | some (off, ft) => match T ft with
        | some fi => if fi.size = 0 then none else some (off, fi)
        | none => none
      | none => none
    | _ => none
  | none => none

def afieldAddr (T : Tab) (t : Nat) (x : AV) (f : Nat) : Option AV :=
  match afield T t f with
  | some (off, _) => match x with
    | .iptr r c => some (.iptr r (c + off))
    | .optr b sz i c => some (.optr b sz i (c + off))
    | _ => none
  | none => none

def afieldOf (T : Tab) (t : Nat) (x : AV) (f : Nat) : Option AV :=
  match afield T t f with
  | some (off, fi) => match x with
    | .agg cs => apart fi cs off
    | _ => none
  | none => none

def atInt : AV → Option Int
  | .val (.int _ n) => some n
  | _ => none

def aindexAddr (T : Tab) (t : Nat) (x i : AV) : Option AV :=
  match T t, atInt i with
  | some ti, some n => if 0 ≤ n then
      match ti.kind, x with
      | .sl e, .isl sz rows => match T e with
        | some ei => if ei.size = sz then match rows[n.toNat]? with
          | some r => some (.iptr r 0)
          | none => none else none
        | none => none
      | .sl e, .osl b sz off len => match T e with
        | some ei => if ei.size = sz ∧ n.toNat < len then some (.optr b sz (off + n.toNat) 0) else none
        | none => none
      | .arr m e, .optr b sz r c => match T e with
        | some ei => if n.toNat < m then some (.optr b sz r (c + n.toNat * ei.size)) else none
        | none => none
      | .arr m e, .iptr r c => match T e with
        | some ei => if n.toNat < m then some (.iptr r (c + n.toNat * ei.size)) else none
        | none => none
      | _, _ => none
    else none
  | _, _ => none

def aindex (T : Tab) (t : Nat) (x i : AV) : Option AV :=
  match T t, atInt i with
  | some ti, some n => if 0 ≤ n then
      match ti.kind, x with
      | .arr m e, .agg cs => match T e with
        | some ei => if n.toNat < m then apart ei cs (n.toNat * ei.size) else none
        | none => none
      | .str, .val (.string s) => match s[n.toNat]? with
        | some c => some (abyte c.toNat)
        | none => none
      | _, _ => none
    else none
  | _, _ => none

def abound (d : Nat) : Option AV → Option Nat
  | none => some d
  | some (.val (.int _ n)) => if 0 ≤ n then some n.toNat else none
  | _ => none

def aslice (T : Tab) (t : Nat) (x : AV) (lo hi : Option AV) : Option AV :=
  match T t with
  | some ti => match ti.kind, x with
    | .sl e, .isl sz rows => match T e, abound 0 lo, abound rows.length hi with
      | some ei, some l, some h => if ei.size = sz ∧ l ≤ h ∧ h ≤ rows.length then some (.isl sz ((rows.take h).drop l)) else none
      | _, _, _ => none
    | .sl e, .osl b sz off len => match T e, abound 0 lo, abound len hi with
      | some ei, some l, some h => if ei.size = sz ∧ l ≤ h ∧ h ≤ len then some (.osl b sz (off + l) (h - l)) else none
      | _, _, _ => none
    | .sl e, .val (.slice none 0 0) => match T e, abound 0 lo, abound 0 hi with
      | some _, some 0, some 0 => some anil
      | _, _, _ => none
    | .str, .val (.string s) => match abound 0 lo, abound s.size hi with
      | some l, some h => if l ≤ h ∧ h ≤ s.size then some (astr (s.extract l h)) else none
      | _, _ => none
    | _, _ => none
  | none => none

def aconv (T : Tab) (src dst : Nat) (x : AV) : Option AV :=
  match T src, T dst with
  | some si, some di => match si.kind, di.kind, x with
    | .int _, .int k, .val (.int _ n) => some (.val (.int k (k.wrap n)))
    | .str, .str, .val (.string s) => some (.val (.string s))
    | _, _, _ => none
  | _, _ => none

def alen (T : Tab) (t : Nat) (x : AV) : Option AV :=
  match T t with
  | some ti => match ti.kind, x with
    | .sl _, .isl _ rows => some (aint rows.length)
    | .sl _, .osl _ _ _ n => some (aint n)
    | .sl _, .val (.slice none 0 0) => some (aint 0)
    | .str, .val (.string s) => some (aint s.size)
    | .arr n _, _ => some (aint n)
    | _, _ => none
  | none => none

/-- the places of a struct's or an array's parts -/
def aplace (T : Tab) (k : TK) (i : Nat) : Option (Nat × Nat) :=
  match k with
  | .struct fs => match fs[i]? with
    | some (off, ft) => match T ft with
      | some fi => some (off, fi.size)
      | none => none
    | none => none
  | .arr _ e => match T e with
    | some ei => some (i * ei.size, ei.size)
    | none => none
  | _ => none

/-- are all parts' types known? -/
def aplaces (T : Tab) : TK → Bool
  | .struct fs => fs.all fun p => (T p.2).isSome
  | .arr _ e => (T e).isSome
  | _ => false

def afill (place : Nat → Option (Nat × Nat)) : List AV → List (Nat × AV) → Option (List AV)
  | cells, [] => some cells
  | cells, (i, x) :: rest =>
    match place i with
    | none => none
    | some (off, size) =>
      if x.okCells = true ∧ x.cells.length = size ∧ off + size ≤ cells.length then
        afill place (cells.take off ++ x.cells ++ cells.drop (off + size)) rest
      else none

def abuild (T : Tab) (t : Nat) (parts : List (Nat × AV)) : Option AV :=
  match T t with
  | some ti => if aplaces T ti.kind = true then match afill (aplace T ti.kind) (ti.zero.map .val) parts with
      | some cs => some (.agg cs)
      | none => none
    else none
  | none => none

/-- a load through a pointer into what never changes -/
def aloadI (T : Tab) (t : Nat) (x : AV) : Option AV :=
  match T t, x with
  | some ti, .iptr r c => apart ti r c
  | _, _ => none

/-- an interface's value held against nil -/
def aifc (op : BinOp) (x : AV) (y : Operand) : Option AV :=
  match op, x, y with
  | .eql, .val .nilIface, .const .nilIface => some (abool true)
  | .neq, .val .nilIface, .const .nilIface => some (abool false)
  | .eql, .ifc _ _, .const .nilIface => some (abool false)
  | .neq, .ifc _ _, .const .nilIface => some (abool true)
  | _, _, _ => none
def zeroV (ti : TI) : Value := if ti.kind.agg then .agg ti.zero.toArray else ti.zero.headD default
/-- a type's value out of an interface -/
def atas (ti : TI) (t : Nat) (x : AV) : Option AV :=
  match ti.kind, x with
  | .iface, _ => none
  | _, .ifc u v => some (if u = t then .tup [v, abool true] else .tup [constAV (zeroV ti), abool false])
  | _, .val .nilIface => some (.tup [constAV (zeroV ti), abool false])
  | _, _ => none
def amax (x y : AV) : Option AV := match x, y with
  | .val (.int k a), .val (.int k' b) => if k = k' then some (.val (.int k (if b > a then b else a))) else none
  | _, _ => none
def amin (x y : AV) : Option AV := match x, y with
  | .val (.int k a), .val (.int k' b) => if k = k' then some (.val (.int k (if b < a then b else a))) else none
  | _, _ => none

def acalm (T : Tab) (op : Op) (ρ : Operand → AV) : Option AV :=
  match op with
  | .move x | .assign x => some (ρ x)
  | .pick c a b => match ρ c with
    | .val (.bool t) => some (if t then ρ a else ρ b)
    | _ => none
  | .binOp op t x y _ => match T t with
    | some ti => match aifc op (ρ x) y with
      | some z => match ti.kind with
        | .iface => some z
        | _ => none
      | none => abin2 op ti (ρ x) (ρ y)
    | none => none
  | .unOp op _ x => aun op (ρ x)
  | .fieldAddr t x f => afieldAddr T t (ρ x) f
  | .field t x f => afieldOf T t (ρ x) f
  | .indexAddr t x i => aindexAddr T t (ρ x) (ρ i)
  | .index t x i => aindex T t (ρ x) (ρ i)
  | .slice t x lo hi none => aslice T t (ρ x) (lo.map ρ) (hi.map ρ)
  | .convert s d x => aconv T s d (ρ x)
  | .extract x i => match ρ x with
    | .tup vs => vs[i]?
    | _ => none
  | .makeFunc f first caps => some (.fn f (first.toList.map ρ) (caps.toList.map ρ))
  | .build t parts => abuild T t (parts.toList.map fun p => (p.1, ρ p.2))
  | .load t x => aloadI T t (ρ x)
  | .nilCheck x => match ρ x with
    | .iptr r c => some (.iptr r c)
    | .optr b sz i c => some (.optr b sz i c)
    | _ => none
  | .makeInterface t x => match T t with
    | some ti => match ti.kind with
      | .iface => none
      | _ => some (.ifc t (ρ x))
    | none => none
  | .call ⟨.builtin .len, args, tys⟩ => match args[0]?, tys[0]? with
    | some x, some t => alen T t (ρ x)
    | _, _ => none
  | .call ⟨.builtin .max, args, _⟩ => match args.toList with
    | [x, y] => amax (ρ x) (ρ y)
    | _ => none
  | .call ⟨.builtin .min, args, _⟩ => match args.toList with
    | [x, y] => amin (ρ x) (ρ y)
    | _ => none
  | .typeAssert x _ t true => match T t with
    | some ti => atas ti t (ρ x)
    | none => none
  | _ => none

end Go.Proofs.YtggcmnoacplbkaaDoor.AM
