/- The abstract machine, part 4: operations that read, write and make memory; calls. -/
import Derived.Test.YtggcmnoacplbkaaDoorAm3
import Derived.Laws.MakeOwn
import Derived.RangeFuncNested
namespace Go.Proofs.YtggcmnoacplbkaaDoor.AM
open Go
set_option linter.unusedVariables false
set_option linter.unusedSimpArgs false

/-- How a call ends. -/
inductive AE where
  | ret (x : AV)
  | pan (x : AV)

def callable (P : Program) (f : Nat) : Prop := ∃ fn, P.funcs[f]? = some fn ∧ (fn.name == "runtime.NumGoroutine") = false ∧ fn.body.isNone = false

/-- What a call does, by abstract values and heaps. -/
def ACalls (P : Program) (f : Nat) (args : List AV) (h : Hp) (Q : AE → Hp → Prop) : Prop :=
  callable P f ∧ ∀ (g : Gh) (w : World) (vs : Array Value), VRs g args vs.toList → HR g h w →
    Calls P f vs w fun e w' => ∃ g' h' E, g.le g' ∧ HR g' h' w' ∧ Q E h' ∧ match E, e with
      | .ret x, .returned v => VR g' x v
      | .pan x, .panicked chain => ∃ v, chain = [{ v, recovered := false }] ∧ VR g' x v
      | _, _ => False

/-- A call that always comes to one value, and changes nothing that is told of. -/
def APure (P : Program) (f : Nat) (args : List AV) (x : AV) : Prop := ∀ h, ACalls P f args h fun e h' => e = .ret x ∧ h' = h

theorem ACalls.mono {P : Program} {f : Nat} {args : List AV} {h : Hp} {Q Q' : AE → Hp → Prop} (k : ACalls P f args h Q) (hq : ∀ e h', Q e h' → Q' e h') : ACalls P f args h Q' :=
  ⟨k.1, fun g w vs hv hh => (k.2 g w vs hv hh).mono fun e w' ⟨g', h', E, a, b, c, d⟩ => ⟨g', h', E, a, b, hq _ _ c, d⟩⟩

/-- frames of whatever functions, plain or of a round -/
def Fr (r : Option Nat) : Fence := { Fence.wide with round := r }

/-- What a call of a loop's 'yield' does. -/
def AYield (P : Program) (gb : Gh) (l : Nat) (args : List AV) (h : Hp) (K : AV → Hp → Prop) : Prop :=
  ∀ (g : Gh) (w : World) (vs : Array Value), gb.cle g → VRs g args vs.toList → HR g h w →
    YieldAt Fence.wide 0 P l vs w fun e w' => ∃ g' h' x v, e = .returned v ∧ g.le g' ∧ HR g' h' w' ∧ VR g' x v ∧ K x h'
theorem AYield.mono {P : Program} {gb : Gh} {l : Nat} {args : List AV} {h : Hp} {K K' : AV → Hp → Prop} (k : AYield P gb l args h K) (hk : ∀ x h', K x h' → K' x h') : AYield P gb l args h K' :=
  fun g w vs hgb hv hh => by
    obtain ⟨fn, tm, as_, bd, a, b⟩ := k g w vs hgb hv hh
    exact ⟨fn, tm, as_, bd, a, b.mono fun e w' ⟨g', h', x, v, c, d, e', f, q⟩ => ⟨g', h', x, v, c, d, e', f, hk _ _ q⟩⟩
def yieldOf (op : Op) (ρ : Operand → AV) : Option (Nat × Gh) := match op with
  | .call ⟨.value f, _, _⟩ => match ρ f with
    | .yld l gb => some (l, gb)
    | _ => none
  | _ => none

/-! ### sources and targets of append, copy -/
def aSrc (sz : Nat) (kx : TK) (x : AV) (h : Hp) : Option (List (List AV)) :=
  match kx, x with
  | .sl _, .isl sz' rows => if sz' = sz then some rows else none
  | .sl _, .osl b sz' off len => match h b with
    | some o => if sz' = sz ∧ o.sz = sz ∧ off + len ≤ o.rows.length then some ((o.rows.drop off).take len) else none
    | none => none
  | .sl _, .val (.slice none 0 0) => some []
  | .str, .val (.string s) => if sz = 1 then some (s.data.toList.map fun b => [abyte b.toNat]) else none
  | _, _ => none

def aDst (sz : Nat) (s : AV) (h : Hp) : Option (List (List AV) × Option (Nat × Option (Nat × Nat))) :=
  match s with
  | .val (.slice none 0 0) => some ([], none)
  | .osl b sz' 0 len => match h b with
    | some o => if sz' = sz ∧ o.sz = sz ∧ len ≤ o.rows.length then some (o.rows.take len, some (b, o.ty)) else none
    | none => none
  | _ => none

def aAppend (T : Tab) (t tx : Nat) (s x : AV) (h : Hp) (k : AV → Hp → Prop) : Prop :=
  match T t, T tx with
  | some ti, some tix => match ti.kind with
    | .sl e => match T e with
      | some ei => match aDst ei.size s h, aSrc ei.size tix.kind x h with
        | some (rs, ob), some xs =>
          (rs.length + xs.length) * ei.bytes ≤ 140737488355328 ∧ 0 < ei.size ∧ 0 < ei.bytes ∧
          match ob with
          | none => (xs = [] → k anil h) ∧ (xs ≠ [] → ∀ b, h b = none → k (.osl b ei.size 0 xs.length) (h.upd b ⟨ei.size, xs, some (e, 0)⟩))
          | some (b0, ty) => ∀ b, h.del b0 b = none → k (.osl b ei.size 0 (rs.length + xs.length)) ((h.del b0).upd b ⟨ei.size, rs ++ xs, keepTy e ty⟩)
        | _, _ => False
      | none => False
    | _ => False
  | _, _ => False

/-- a slice of which it is not known whether it is nil, held against nil -/
def nilCmp (T : Tab) (op : BinOp) (t : Nat) (x : AV) (y : Operand) (h : Hp) (k : AV → Hp → Prop) : Prop :=
  match T t with
  | some ti => match ti.kind, op, x, y with
    | .sl _, .eql, .isl _ rows, .const (.slice none 0 0) => (rows = [] → k (abool true) h) ∧ k (abool false) h
    | .sl _, .neq, .isl _ rows, .const (.slice none 0 0) => (rows = [] → k (abool false) h) ∧ k (abool true) h
    | _, _, _, _ => False
  | none => False

def aClear (T : Tab) (t : Nat) (x : AV) (h : Hp) (k : AV → Hp → Prop) : Prop :=
  match T t with
  | some ti => match ti.kind, x with
    | .sl e, .osl b sz off len => match T e, h b with
      | some ei, some o => o.sz = sz ∧ ei.size = sz ∧ off + len ≤ o.rows.length ∧ k (.tup []) (h.upd b ⟨sz, o.rows.take off ++ (List.replicate len (ei.zero.map .val) ++ o.rows.drop (off + len)), o.ty⟩)
      | _, _ => False
    | .sl _, .val (.slice none 0 0) => k (.tup []) h
    | .sl _, .isl _ [] => k (.tup []) h
    | _, _ => False
  | none => False

/-- bytes in a row of cells -/
def bytesOf : List (List AV) → Option (List UInt8)
  | [] => some []
  | [.val (.int .u8 n)] :: rs => match bytesOf rs with
    | some l => some (UInt8.ofNat n.toNat :: l)
    | none => none
  | _ :: _ => none
/-- bytes, taken as a text -/
def aText (T : Tab) (s d : Nat) (x : AV) (h : Hp) : Option AV :=
  match T s, T d with
  | some si, some di => match si.kind, di.kind with
    | .sl e, .str => match T e with
      | some ei => match ei.kind, aSrc 1 si.kind x h with
        | .int .u8, some rows => match bytesOf rows with
          | some l => some (astr ⟨l.toArray⟩)
          | none => none
        | _, _ => none
      | none => none
    | _, _ => none
  | _, _ => none

/-- a text's bytes, in a new block -/
def aBytes (T : Tab) (s d : Nat) (x : AV) (h : Hp) (k : AV → Hp → Prop) : Prop :=
  match T s, T d, x with
  | some si, some di, .val (.string t) => match si.kind, di.kind with
    | .str, .sl e => match T e with
      | some ei => ei.kind = .int .u8 ∧ ei.size = 1 ∧ ∀ b, h b = none → k (.osl b 1 0 t.size) (h.upd b ⟨1, t.data.toList.map fun c => [abyte c.toNat], some (e, 0)⟩)
      | none => False
    | _, _ => False
  | _, _, _ => False
/-! ### maps from which nothing is taken: their entries in the order in which they came -/
def entriesOf : Nat → List (Value × Value) → List MapEntry
  | _, [] => []
  | n, (k, v) :: l => { key := k, val := v, born := n } :: entriesOf (n + 1) l
def mapObj (l : List (Value × Value)) : Obj := .map (entriesOf 0 l).toArray l.length
def mapOf : Obj → Option (List (Value × Value))
  | .map es clk => if es.toList.map (·.born) = List.range' 0 es.toList.length ∧ clk = es.toList.length then some (es.toList.map fun e => (e.key, e.val)) else none
  | _ => none
theorem entriesOf_length : ∀ (n : Nat) (l : List (Value × Value)), (entriesOf n l).length = l.length
  | _, [] => rfl
  | n, p :: l => by simp [entriesOf, entriesOf_length (n + 1) l]
theorem entriesOf_pairs : ∀ (n : Nat) (l : List (Value × Value)), ((entriesOf n l).map fun e => (e.key, e.val)) = l
  | _, [] => rfl
  | n, p :: l => by simp [entriesOf, entriesOf_pairs (n + 1) l]
theorem entriesOf_born : ∀ (n : Nat) (l : List (Value × Value)), (entriesOf n l).map (·.born) = List.range' n l.length
  | _, [] => rfl
  | n, p :: l => by simp [entriesOf, entriesOf_born (n + 1) l, List.range'_succ]
theorem entriesOf_of : ∀ (n : Nat) (l : List MapEntry), l.map (·.born) = List.range' n l.length → entriesOf n (l.map fun e => (e.key, e.val)) = l
  | _, [], _ => rfl
  | n, e :: l, h => by
    simp only [List.map_cons, List.length_cons, List.range'_succ, List.cons.injEq] at h
    simp only [List.map_cons, entriesOf, entriesOf_of (n + 1) l h.2, List.cons.injEq, and_true]
    rw [← h.1]
theorem mapOf_obj (l : List (Value × Value)) : mapOf (mapObj l) = some l := by
  simp [mapOf, mapObj, entriesOf_pairs, entriesOf_length, entriesOf_born]
theorem mapObj_of {o : Obj} {l : List (Value × Value)} (h : mapOf o = some l) : o = mapObj l := by
  cases o <;> simp only [mapOf] at h <;> try cases h
  rename_i es clk
  split at h <;> cases h
  rename_i h1
  obtain ⟨h1, h2⟩ := h1
  subst h2
  unfold mapObj
  rw [entriesOf_of 0 _ h1]
  simp
theorem notCells_map (l : List (Value × Value)) : notCells (mapObj l) = true := rfl
/-- are two keys of a kind the same? -/
def sameK : TK → Value → Value → Option Bool
  | .int _, .int k a, .int k' b => if k = k' then some (a == b) else none
  | .str, .string a, .string b => some (a == b)
  | _, _, _ => none
def keyK : TK → Value → Bool
  | .int k, .int k' _ => k' = k
  | .str, .string _ => true
  | _, _ => false
def lookNow (kk : TK) : List (Value × Value) → Value → Option (Option Value)
  | [], _ => some none
  | (k', v) :: l, k => match sameK kk k k' with
    | some true => some (some v)
    | some false => lookNow kk l k
    | none => none
def updNow (kk : TK) : List (Value × Value) → Value → Value → Option (List (Value × Value))
  | [], k, x => some [(k, x)]
  | (k', v) :: l, k, x => match sameK kk k k' with
    | some true => some ((k, x) :: l)
    | some false => match updNow kk l k x with
      | some l' => some ((k', v) :: l')
      | none => none
    | none => none
def atMap (h : Hp) : Value → Option (List (Value × Value))
  | .map none => some []
  | .map (some b) => match h.r b with
    | some o => mapOf o
    | none => none
  | _ => none
def aLook (T : Tab) (t : Nat) (x i : AV) (ok : Bool) (h : Hp) (k : AV → Hp → Prop) : Prop :=
  match T t, x, i with
  | some ti, .val m, .val i => match ti.kind with
    | .map kt et => match T kt, T et with
      | some ki, some ei => keyK ki.kind i = true ∧ match atMap h m with
        | some l => match lookNow ki.kind l i with
          | some (some v) => k (if ok then .tup [constAV v, abool true] else constAV v) h
          | some none => k (if ok then .tup [constAV (zeroV ei), abool false] else constAV (zeroV ei)) h
          | none => False
        | none => False
      | _, _ => False
    | _ => False
  | _, _, _ => False
def vOf : AV → Option Value
  | .val v => some v
  | _ => none
/-- a value whose cells are known -/
def fixV : AV → Option Value
  | .val v => some v
  | .agg cs => match cs.mapM vOf with
    | some vs => some (.agg vs.toArray)
    | none => none
  | _ => none
def aUpd (T : Tab) (t : Nat) (x i v : AV) (h : Hp) (k : AV → Hp → Prop) : Prop :=
  match T t, x, i, fixV v with
  | some ti, .val (.map (some b)), .val i, some v => match ti.kind, h.r b with
    | .map kt _, some o => match T kt, mapOf o with
      | some ki, some l => keyK ki.kind i = true ∧ match updNow ki.kind l i v with
        | some l' => k .any (h.updR b (mapObj l'))
        | none => False
      | _, _ => False
    | _, _ => False
  | _, _, _, _ => False
def iterObj (b n : Nat) (seen : Array Nat) : Obj := .mapIter (some b) n seen n
def leftIx (n : Nat) (seen : Array Nat) : List Nat := (List.range n).filter fun i => !seen.contains i
def aRange (T : Tab) (t : Nat) (x : AV) (h : Hp) (k : AV → Hp → Prop) : Prop :=
  match T t, x with
  | some ti, .val (.map (some b)) => match ti.kind, h.r b with
    | .map _ _, some o => match mapOf o with
      | some l => ∀ r, h.r r = none → k (.val (.pointer (some ⟨r, 0, none⟩))) (h.updR r (iterObj b l.length #[]))
      | none => False
    | _, _ => False
  | _, _ => False
def iterAt (h : Hp) : AV → Option (Nat × Nat × Nat × Array Nat × List (Value × Value))
  | .val (.pointer (some ⟨r, 0, none⟩)) => match h.r r with
    | some (.mapIter (some b) n seen c) => match h.r b with
      | some o => match mapOf o with
        | some l => if n = l.length ∧ c = l.length then some (r, b, n, seen, l) else none
        | none => none
      | none => none
    | _ => none
  | _ => none
def aNext (x : AV) (h : Hp) (k : AV → Hp → Prop) : Prop :=
  match iterAt h x with
  | some (r, b, n, seen, l) => (leftIx n seen = [] → k (.tup [abool false]) h) ∧
      ∀ i ∈ leftIx n seen, ∀ p, l[i]? = some p → k (.tup [abool true, constAV p.1, constAV p.2]) (h.updR r (iterObj b n (seen.push i)))
  | none => False
def aEntry (x : AV) (h : Hp) (k : AV → Hp → Prop) : Prop :=
  match iterAt h x with
  | some (r, b, n, seen, l) => match seen.back? with
    | some i => match l[i]? with
      | some p => k (.tup [constAV p.1, constAV p.2]) h
      | none => False
    | none => False
  | none => False
/-- rows of a slice literal -/
def arows (sz : Nat) : List (List AV) → List (Nat × AV) → Option (List (List AV))
  | rows, [] => some rows
  | rows, (i, x) :: rest => if x.okCells = true ∧ x.cells.length = sz ∧ i < rows.length then arows sz (rows.set i x.cells) rest else none

/-- What an operation comes to: its value and the heap behind it are handed to k; a panic's value to X. -/
def aRes (P : Program) (T : Tab) (pure : Bool) (op : Op) (ρ : Operand → AV) (h : Hp) (k : AV → Hp → Prop) (X : AV → Hp → Prop) : Prop :=
  match op with
  | .alloc t => match T t with
    | some ti => ∀ b, h b = none → k (.optr b ti.size 0 0) (h.upd b ⟨ti.size, [ti.zero.map .val], some (t, ti.size)⟩)
    | none => False
  | .box t x => match T t with
    | some ti => (ρ x).okCells = true ∧ (ρ x).cells.length = ti.size ∧ ∀ b, h b = none → k (.optr b ti.size 0 0) (h.upd b ⟨ti.size, [(ρ x).cells], some (t, ti.size)⟩)
    | none => False
  | .load t x => match ρ x with
    | .optr b sz i c => if pure = true then False else match T t, h b with
      | some ti, some o => match o.rows[i]? with
        | some r => o.sz = sz ∧ match apart ti r c with
          | some y => k y h
          | none => False
        | none => False
      | _, _ => False
    | y => match aloadI T t y with
      | some z => k z h
      | none => False
  | .store t p x => match T t, ρ p with
    | some ti, .optr b sz i c => match h b with
      | some o => match o.rows[i]? with
        | some r => o.sz = sz ∧ (ρ x).okCells = true ∧ (ρ x).cells.length = ti.size ∧ c + ti.size ≤ r.length ∧
            k .any (h.upd b ⟨sz, o.rows.set i (r.take c ++ (ρ x).cells ++ r.drop (c + ti.size)), o.ty⟩)
        | none => False
      | none => False
    | _, _ => False
  | .buildSlice t len parts => match T t with
    | some ti => match ti.kind with
      | .sl e => match T e with
        | some ei => 0 < ei.size ∧ len * ei.size ≤ 16777216 ∧ match arows ei.size (List.replicate len (ei.zero.map .val)) (parts.toList.map fun p => (p.1, ρ p.2)) with
          | some rows => ∀ b, h b = none → k (.osl b ei.size 0 len) (h.upd b ⟨ei.size, rows, some (e, 0)⟩)
          | none => False
        | none => False
      | _ => False
    | none => False
  | .makeSlice t l c => match T t, ρ l, ρ c with
    | some ti, .val (.int _ m), .val (.int _ n) => match ti.kind with
      | .sl e => match T e with
        | some ei => 0 < ei.size ∧ 0 ≤ m ∧ m ≤ n ∧ (ei.bytes : Int) * n ≤ 281474976710656 ∧ n ≤ 9223372036854775807 ∧
            ∀ b, h b = none → k (.osl b ei.size 0 m.toNat) (h.upd b ⟨ei.size, List.replicate m.toNat (ei.zero.map .val), some (e, 0)⟩)
        | none => False
      | _ => False
    | _, _, _ => False
  | .call ⟨.builtin .append, args, tys⟩ => match args.toList, tys.toList with
    | [s, x], [t, tx] => aAppend T t tx (ρ s) (ρ x) h k
    | _, _ => False
  | .call ⟨.value f, args, _⟩ => match ρ f with
    | .fn (.func n) first caps =>
      if pure = true then ∃ x, APure P n (first ++ args.toList.map ρ ++ caps) x ∧ k x h
      else ACalls P n (first ++ args.toList.map ρ ++ caps) h fun e h' => match e with
        | .ret x => k x h'
        | .pan x => X x h'
    | .yld l gb => if pure = true then False else AYield P gb l (args.toList.map ρ) h k
    | _ => False
  | .panic x => match ρ x with
    | .ifc t y => X (.ifc t y) h
    | _ => False
  | .call ⟨.builtin .clear, args, tys⟩ => match args.toList, tys.toList with
    | [x], [t] => aClear T t (ρ x) h k
    | _, _ => False
  | .makeMap t none => match T t with
    | some ti => match ti.kind with
      | .map _ _ => ∀ b, h.r b = none → k (.val (.map (some b))) (h.updR b (mapObj []))
      | _ => False
    | none => False
  | .lookup t x i ok => aLook T t (ρ x) (ρ i) ok h k
  | .mapUpdate t m i x => aUpd T t (ρ m) (ρ i) (ρ x) h k
  | .range t x => aRange T t (ρ x) h k
  | .next x false => aNext (ρ x) h k
  | .entry x => aEntry (ρ x) h k
  | .binOp op t x y yt => match acalm T (.binOp op t x y yt) ρ with
    | some z => k z h
    | none => nilCmp T op t (ρ x) y h k
  | .convert s d x => match acalm T (.convert s d x) ρ with
    | some z => k z h
    | none => match aText T s d (ρ x) h with
      | some z => k z h
      | none => aBytes T s d (ρ x) h k
  | op => match acalm T op ρ with
    | some x => k x h
    | none => False

/-! ### what the heap's relation keeps -/
section
variable {P : Program} {T : Tab} {g : Gh} {h : Hp} {w : World}

theorem HR.fresh (k : HR g h w) : h w.heap.size = none ∧ g.fz w.heap.size = none ∧ g.shp w.heap.size = none := by
  have none_ : ∀ o : Obj, w.heap[w.heap.size]? ≠ some o := fun o e => by simp at e
  refine ⟨?_, ?_, ?_⟩
  · cases e : h w.heap.size with
    | none => rfl
    | some o => obtain ⟨_, c, t, ⟨_, hc, _⟩, _⟩ := k.ob _ o e; exact absurd hc (none_ _)
  · cases e : g.fz w.heap.size with
    | none => rfl
    | some o => exact absurd (k.fz _ o e) (none_ _)
  · cases e : g.shp w.heap.size with
    | none => rfl
    | some o =>
      have := k.shp _ o e
      simp [World.shape?] at this

def Gh.new (g : Gh) (b : Nat) (x : TypeId × Nat) : Gh := { g with shp := fun k => if k = b then some x else g.shp k }
theorem Gh.new_le {g : Gh} {b : Nat} {x : TypeId × Nat} (h : g.shp b = none) : g.le (g.new b x) :=
  ⟨rfl, fun _ _ h => h, fun k y hk => by
    simp only [Gh.new]
    rw [if_neg]; exact hk
    intro e; subst e; rw [h] at hk; cases hk⟩

theorem HR.alloc (k : HR g h w) {c : Array Value} {e : TypeId} {sz : Nat} {rows : List (List AV)} (hr : RowsAt g c sz 0 rows) (ty : Option (Nat × Nat)) (hty : TyOK (some (e, c.size)) ty) :
    g.le (g.new w.heap.size (e, c.size)) ∧ HR (g.new w.heap.size (e, c.size)) (h.upd w.heap.size ⟨sz, rows, ty⟩) (w.alloc (.cells c e)) := by
  obtain ⟨f1, f2, f3⟩ := k.fresh
  have hle : g.le (g.new w.heap.size (e, c.size)) := Gh.new_le f3
  have old : ∀ (b : Nat) (o : Obj), w.heap[b]? = some o → (w.alloc (.cells c e)).heap[b]? = some o := fun b o hb => by
    have hlt := (Array.getElem?_eq_some_iff.1 hb).1
    show (w.heap.push _)[b]? = _
    rw [Array.getElem?_push, if_neg (by omega)]; exact hb
  have new : (w.alloc (.cells c e)).heap[w.heap.size]? = some (.cells c e) := by
    show (w.heap.push _)[w.heap.size]? = _
    simp
  refine ⟨hle, ?_⟩
  constructor
  · exact k.os
  · exact k.tape
  · exact k.output
  · show g.w0.heap.size ≤ _
    rw [World.size_alloc]; have := k.size; omega
  · exact fun b o hb => old b o (k.fz b o hb)
  · intro b x hb
    simp only [Gh.new] at hb
    split at hb
    · rename_i e1; subst e1; cases hb
      simp only [World.shape?, new]
    · have h1 := k.shp b x hb
      have : (w.alloc (.cells c e)).heap[b]? = w.heap[b]? := by
        cases e2 : w.heap[b]? with
        | none => simp [World.shape?, e2] at h1
        | some o => exact old b o e2
      simpa only [World.shape?, this] using h1
  · intro b o hb
    simp only [Hp.upd] at hb
    split at hb
    · rename_i e1; subst e1; cases hb
      exact ⟨⟨f2, by simp only [Gh.new, if_true]; exact hty⟩, c, e, .plain new, by simp [Gh.new], hr.mono hle c sz 0 rows⟩
    · rename_i hne
      obtain ⟨a1, c', e', a2, a3, a4⟩ := k.ob b o hb
      exact ⟨⟨a1.1, a1.2.mono fun y hy => hle.shp _ _ hy⟩, c', e', a2.of (old b), by simp only [Gh.new]; rw [if_neg hne]; exact a3, a4.mono hle c' o.sz 0 o.rows⟩
  · exact glob_mono hle.fz k.gl
  · exact fun b o hb => ⟨⟨old b o (k.raw b o hb).1.1, (k.raw b o hb).1.2⟩, (k.raw b o hb).2⟩

theorem HR.set (k : HR g h w) {b : Nat} {o : Ob} (hb : h b = some o) {c : Array Value} {e : TypeId} {fr : Nat × Nat} (hc : w.heap[b]? = some (.cells c e fr)) {c' : Array Value} (hs : c'.size = c.size) {rows : List (List AV)} {sz : Nat}
    (hr : RowsAt g c' sz 0 rows) (ty : Option (Nat × Nat)) (hty : TyOK (g.shp b) o.ty → TyOK (g.shp b) ty) : HR g (h.upd b ⟨sz, rows, ty⟩) (w.setRow b c') := by
  obtain ⟨q1, c0, e0, ⟨fr0, q2, qt⟩, q3, q4⟩ := k.ob b o hb
  rw [hc] at q2; cases q2
  have same := setRow_heap w b c c' e fr hc
  have old : ∀ x, x ≠ b → (w.setRow b c').heap[x]? = w.heap[x]? := fun x hx => setRow_other w b x c' hx
  constructor
  · exact k.os
  · exact k.tape
  · exact k.output
  · rw [size_setRow]; exact k.size
  · intro x y hx
    rw [old x]; exact k.fz x y hx
    intro e1; subst e1; rw [q1.1] at hx; cases hx
  · intro x y hx
    by_cases e1 : x = b
    · subst e1
      have := k.shp x y hx
      simp only [World.shape?, hc] at this
      simp only [World.shape?, same, hs]; exact this
    · simpa only [World.shape?, old x e1] using k.shp x y hx
  · intro x y hx
    simp only [Hp.upd] at hx
    split at hx
    · rename_i e1; subst e1; cases hx
      exact ⟨⟨q1.1, hty q1.2⟩, c', e, ⟨fr, same, by rw [hs]; exact qt⟩, by rw [hs]; exact q3, hr⟩
    · rename_i hne
      obtain ⟨a1, c2, e2, a2, a3, a4⟩ := k.ob x y hx
      exact ⟨a1, c2, e2, a2.of fun o ho => by rw [old x hne]; exact ho, a3, a4⟩
  · exact k.gl
  · intro x y hx
    have hk := k.raw x y hx
    have hne : x ≠ b := by
      rintro rfl
      rw [hc] at hk
      cases hk.1.1; simp [notCells] at hk
    rw [old x hne]; exact hk

theorem HR.allocRaw (k : HR g h w) {o : Obj} (hn : notCells o = true) : HR g (h.updR w.heap.size o) (w.alloc o) := by
  obtain ⟨f1, f2, f3⟩ := k.fresh
  have old : ∀ (b : Nat) (o' : Obj), w.heap[b]? = some o' → (w.alloc o).heap[b]? = some o' := fun b o' hb => by
    have hlt := (Array.getElem?_eq_some_iff.1 hb).1
    show (w.heap.push _)[b]? = _
    rw [Array.getElem?_push, if_neg (by omega)]; exact hb
  have new : (w.alloc o).heap[w.heap.size]? = some o := by
    show (w.heap.push _)[w.heap.size]? = _
    simp
  constructor
  · exact k.os
  · exact k.tape
  · exact k.output
  · show g.w0.heap.size ≤ _
    rw [World.size_alloc]; have := k.size; omega
  · exact fun b o hb => old b o (k.fz b o hb)
  · intro b x hb
    have h1 := k.shp b x hb
    have : (w.alloc o).heap[b]? = w.heap[b]? := by
      cases e2 : w.heap[b]? with
      | none => simp [World.shape?, e2] at h1
      | some o => exact old b o e2
    simpa only [World.shape?, this] using h1
  · intro b o' hb
    obtain ⟨a1, c', e', a2, a3, a4⟩ := k.ob b o' hb
    exact ⟨a1, c', e', a2.of (old b), a3, a4⟩
  · exact k.gl
  · intro b o' hb
    by_cases e : b = w.heap.size
    · subst e
      rw [Hp.updR_same] at hb; cases hb
      exact ⟨⟨new, hn⟩, f2⟩
    · rw [Hp.updR_ne _ _ e] at hb
      obtain ⟨⟨a1, a2⟩, a3⟩ := k.raw b o' hb
      exact ⟨⟨old b o' a1, a2⟩, a3⟩
theorem HR.freshR (k : HR g h w) : h.r w.heap.size = none := by
  cases e : h.r w.heap.size with
  | none => rfl
  | some o => have := (k.raw _ o e).1.1; simp at this
/-- what is told of a world stays told where a block that is no cells' turns -/
theorem HR.turn {g' : Gh} {h' : Hp} (k : HR g h w) {b : Nat} {o o' : Obj} (hb : w.heap[b]? = some o) (hn : notCells o = true) (hw0 : g'.w0 = g.w0) (hf : ∀ x y, g'.fz x = some y → x ≠ b ∧ g.fz x = some y) (hs : g'.shp = g.shp) (hgl : Glob g'.fz) (hc : ∀ x y, h' x = some y → h x = some y ∧ (∀ c e, VR g c e → VR g' c e))
    (hr : ∀ x y, h'.r x = some y → (x ≠ b ∧ h.r x = some y) ∨ (x = b ∧ y = o' ∧ notCells o' = true ∧ g'.fz b = none)) : HR g' h' (w.putObj b o') := by
  have old : ∀ x, x ≠ b → (w.putObj b o').heap[x]? = w.heap[x]? := fun x hx => World.putObj_heap_other hx
  have hlt := (Array.getElem?_eq_some_iff.1 hb).1
  constructor
  · rw [hw0]; exact k.os
  · rw [hw0]; exact k.tape
  · rw [hw0]; exact k.output
  · rw [hw0, World.putObj_size]; exact k.size
  · intro x y hx
    obtain ⟨h1, h2⟩ := hf x y hx
    rw [old x h1]; exact k.fz x y h2
  · intro x y hx
    rw [hs] at hx
    have h1 := k.shp x y hx
    by_cases e : x = b
    · subst e
      simp only [World.shape?, hb] at h1
      cases o <;> simp [notCells] at hn h1
    · simpa only [World.shape?, old x e] using h1
  · intro x y hx
    obtain ⟨h1, h2⟩ := hc x y hx
    obtain ⟨a1, c, e, ⟨fr, a2, at_⟩, a3, a4⟩ := k.ob x y h1
    have hne : x ≠ b := by
      rintro rfl
      rw [hb] at a2; cases a2; simp [notCells] at hn
    refine ⟨⟨?_, by rw [hs]; exact a1.2⟩, c, e, ⟨fr, by rw [old x hne]; exact a2, at_⟩, by rw [hs]; exact a3, ?_⟩
    · cases e2 : g'.fz x with
      | none => rfl
      | some z => have := (hf x z e2).2; rw [a1.1] at this; cases this
    · refine RowsAt.of_get fun i r hr => ?_
      obtain ⟨l1, l2⟩ := a4.get hr
      refine ⟨l1, CellsAt.of_get fun j z hz => ?_⟩
      obtain ⟨v, v1, v2, v3⟩ := l2.get hz
      exact ⟨v, v1, v2, h2 _ _ v3⟩
  · exact hgl
  · intro x y hx
    rcases hr x y hx with ⟨h1, h2⟩ | ⟨rfl, rfl, h1, h2⟩
    · obtain ⟨⟨a1, a2⟩, a3⟩ := k.raw x y h2
      refine ⟨⟨by rw [old x h1]; exact a1, a2⟩, ?_⟩
      cases e2 : g'.fz x with
      | none => rfl
      | some z => have := (hf x z e2).2; rw [a3] at this; cases this
    · exact ⟨⟨World.putObj_heap_same hlt, h1⟩, h2⟩
theorem HR.putRaw (k : HR g h w) {b : Nat} {o o' : Obj} (hb : h.r b = some o) (hn : notCells o' = true) : HR g (h.updR b o') (w.putObj b o') := by
  obtain ⟨⟨h1, h2⟩, h3⟩ := k.raw b o hb
  refine k.turn h1 h2 rfl (fun x y hx => ⟨?_, hx⟩) rfl k.gl (fun x y hx => ⟨hx, fun _ _ h => h⟩) (fun x y hx => ?_)
  · rintro rfl; rw [h3] at hx; cases hx
  · by_cases e : x = b
    · subst e; rw [Hp.updR_same] at hx; cases hx
      exact .inr ⟨rfl, rfl, hn, h3⟩
    · rw [Hp.updR_ne _ _ e] at hx; exact .inl ⟨e, hx⟩
theorem HR.delRaw (k : HR g h w) (b : Nat) : HR g (h.delR b) w := k.forget ⟨fun _ _ h => h, fun x o hx => by
  simp only [Hp.delR] at hx
  split at hx
  · cases hx
  · exact hx⟩

/-- a block that never changes from now on -/
def Gh.frz (g : Gh) (b : Nat) (o : Obj) : Gh := { g with fz := fun k => if k = b then some o else g.fz k }
theorem HR.allocFz (k : HR g h w) {o : Obj} (hn : notCells o = true) : g.le (g.frz w.heap.size o) ∧ HR (g.frz w.heap.size o) h (w.alloc o) := by
  obtain ⟨f1, f2, f3⟩ := k.fresh
  have hle : g.le (g.frz w.heap.size o) := by
    refine ⟨rfl, fun x y hx => ?_, fun _ _ h => h⟩
    simp only [Gh.frz]; rw [if_neg]
    · exact hx
    · rintro rfl; rw [f2] at hx; cases hx
  have hA := k.allocRaw hn
  refine ⟨hle, hA.os, hA.tape, hA.output, hA.size, fun x y hx => ?_, hA.shp, fun x y hx => ?_, glob_mono hle.fz k.gl, fun x y hx => ?_⟩
  · simp only [Gh.frz] at hx
    split at hx
    · rename_i e; subst e; cases hx
      exact (hA.raw _ o (Hp.updR_same _ _ _)).1.1
    · exact hA.fz x y hx
  · obtain ⟨a1, c, e, a2, a3, a4⟩ := hA.ob x y hx
    refine ⟨⟨?_, a1.2⟩, c, e, a2, a3, a4.mono hle _ _ _ _⟩
    simp only [Gh.frz]; rw [if_neg]
    · exact a1.1
    · rintro rfl; have : h w.heap.size = some y := hx; rw [f1] at this; cases this
  · have hne : x ≠ w.heap.size := by
      rintro rfl; rw [k.freshR] at hx; cases hx
    have := hA.raw x y (by rw [Hp.updR_ne _ _ hne]; exact hx)
    refine ⟨this.1, ?_⟩
    simp only [Gh.frz]; rw [if_neg hne]; exact this.2

/-- cells stored into a block that is not frozen -/
theorem run_storeCells_th (P : Program) (g o : Nat) (t : TypeId) (fr : Nat × Nat) : ∀ (vs : List Value) (i : Nat) (cur : Array Value) (w : World), w.heap[g]? = some (.cells cur t fr) → Thawed fr cur.size → o + i + vs.length ≤ cur.size → (∀ v ∈ vs, v.oneCell' = true) →
    (storeCells ⟨g, o, none⟩ vs i).run P w = .ok () (w.setRow g (cur.toList.take (o + i) ++ vs ++ cur.toList.drop (o + i + vs.length)).toArray)
  | [], i, cur, w, hg, _, _, _ => by
    simp only [storeCells, List.append_nil, List.length_nil, Nat.add_zero, List.take_append_drop, Array.toArray_toList]
    rw [setRow_self w g cur t fr hg]
    rfl
  | v :: rest, i, cur, w, hg, ht, hl, h1 => by
    have hi : o + i < cur.size := by simp at hl; omega
    have hadd : (⟨g, o, none⟩ : Addr).add i = ⟨g, o + i, none⟩ := by unfold Addr.add; split <;> simp_all
    have hcell : w.cell? ⟨g, o + i, none⟩ = some cur[o + i] := by simp [World.cell?, hg, hi]
    have hfro : w.frozen? ⟨g, o + i, none⟩ = false := by
      obtain ⟨lo, hi'⟩ := fr
      simp only [World.frozen?, hg, Bool.and_eq_false_imp, decide_eq_true_eq, decide_eq_false_iff_not]
      intro h2
      rcases ht with ht | ht <;> simp only at ht <;> omega
    have hst : (store ((⟨g, o, none⟩ : Addr).add i) v).run P w = .ok () (w.setRow g (cur.setIfInBounds (o + i) v)) := by
      rw [hadd, run_store P w _ v _ (h1 v (by simp)), hcell]
      simp [hfro, setCell_eq_setRow w g (o + i) cur t fr v hg]
    have ih := run_storeCells_th P g o t fr rest (i + 1) (cur.setIfInBounds (o + i) v) (w.setRow g (cur.setIfInBounds (o + i) v)) (setRow_heap w g cur _ t _ hg) (by simpa using ht) (by simp at hl ⊢; omega) (fun x hx => h1 x (by simp [hx]))
    simp only [storeCells, Sem.run_bind, hst, Result.andThen_ok, ih, setRow_setRow]
    congr 3
    have e := list_seg_step cur.toList (o + i) v rest (by simp at hl ⊢; omega)
    simpa [Array.toList_setIfInBounds, Nat.add_assoc] using e

theorem HR.del (k : HR g h w) (b : Nat) : HR g (h.del b) w := k.forget ⟨fun x o hx => by
  simp only [Hp.del] at hx
  split at hx
  · cases hx
  · exact hx, fun _ _ hx => hx⟩

theorem one_row {c : Array Value} {xs : List AV} (h1 : CellsAt g c 0 xs) : RowsAt g c xs.length 0 [xs] := by
  simp only [RowsAt]; exact ⟨trivial, h1, trivial⟩

theorem RowsAt.splice {c c' : Array Value} {sz : Nat} {rows : List (List AV)} {i co : Nat} {r xs : List AV} (hr : RowsAt g c sz 0 rows) (hi : rows[i]? = some r) (hco : co + xs.length ≤ sz)
    (hout : ∀ k, (k < i * sz + co ∨ i * sz + co + xs.length ≤ k) → c'[k]? = c[k]?) (hx : CellsAt g c' (i * sz + co) xs) :
    RowsAt g c' sz 0 (rows.set i (r.take co ++ xs ++ r.drop (co + xs.length))) :=
  RowsAt.of_get fun j q hq => by
    rw [List.getElem?_set] at hq
    split at hq
    · rename_i e1; subst e1
      split at hq <;> cases hq
      obtain ⟨l1, l2⟩ := hr.get hi
      refine ⟨by simp [l1]; omega, ?_⟩
      rw [Nat.zero_add] at l2 ⊢
      have e1 : (r.take co).length = co := by simp; omega
      refine ((l2.take co).congr fun k hk => hout _ ?_).append ?_ |>.append ?_
      · rw [e1] at hk; left; omega
      · rw [e1]; exact hx
      · have e2 : (r.take co ++ xs).length = co + xs.length := by simp; omega
        rw [e2]
        have l3 := l2.drop (co + xs.length)
        refine l3.congr fun k hk => ?_
        rw [hout]
        right; omega
    · rename_i hne
      obtain ⟨l1, l2⟩ := hr.get hq
      refine ⟨l1, l2.congr fun k hk => hout _ ?_⟩
      rw [l1] at hk
      rw [Nat.zero_add]
      rcases Nat.lt_or_gt_of_ne hne with hlt | hlt
      · right
        have : (i + 1) * sz ≤ j * sz := Nat.mul_le_mul_right _ hlt
        rw [Nat.add_mul] at this; omega
      · left
        have : (j + 1) * sz ≤ i * sz := Nat.mul_le_mul_right _ hlt
        rw [Nat.add_mul] at this; omega

/-- what a splice of cells holds -/
theorem splice_get (cur : Array Value) (vs : List Value) (o : Nat) (h : o + vs.length ≤ cur.size) (k : Nat) :
    ((cur.toList.take o ++ vs ++ cur.toList.drop (o + vs.length)).toArray)[k]? = if o ≤ k ∧ k < o + vs.length then vs[k - o]? else cur[k]? := by
  rw [List.getElem?_toArray, List.append_assoc, List.getElem?_append, List.length_take, Array.length_toList]
  split
  · rw [if_neg (by omega), List.getElem?_take, if_pos (by omega)]; simp
  · rw [List.getElem?_append]
    split
    · rw [if_pos (by omega)]; congr 1; omega
    · rw [if_neg (by omega), List.getElem?_drop]; simp; congr 1; omega

theorem splice_size (cur : Array Value) (vs : List Value) (o : Nat) (h : o + vs.length ≤ cur.size) : ((cur.toList.take o ++ vs ++ cur.toList.drop (o + vs.length)).toArray).size = cur.size := by
  simp; omega

/-- a row of cells as a list of values -/
theorem CellsAt.list {c : Array Value} : ∀ {o : Nat} {xs : List AV}, CellsAt g c o xs → ∃ vs : List Value, vs.length = xs.length ∧ (∀ v ∈ vs, v.oneCell' = true) ∧ (∀ (j : Nat) v, vs[j]? = some v → c[o + j]? = some v) ∧
    ∀ (c' : Array Value) (o' : Nat), (∀ (j : Nat) v, vs[j]? = some v → c'[o' + j]? = some v) → CellsAt g c' o' xs
  | o, [], _ => ⟨[], rfl, by simp, by simp, fun _ _ _ => by simp [CellsAt]⟩
  | o, x :: xs, h => by
    simp only [CellsAt] at h
    obtain ⟨⟨v, h1, h2, h3⟩, h4⟩ := h
    obtain ⟨vs, a1, a2, a3, a4⟩ := h4.list
    refine ⟨v :: vs, by simp [a1], ?_, ?_, ?_⟩
    · intro u hu
      cases hu with
      | head => exact h2
      | tail _ hu => exact a2 u hu
    · intro j u hu
      cases j with
      | zero => simp at hu; subst hu; simpa using h1
      | succ j => have := a3 j u (by simpa using hu); rwa [Nat.add_assoc, Nat.add_comm 1 j] at this
    · intro c' o' hc
      simp only [CellsAt]
      refine ⟨⟨v, by simpa using hc 0 v (by simp), h2, h3⟩, a4 c' (o' + 1) fun j u hu => ?_⟩
      have := hc (j + 1) u (by simpa using hu)
      rwa [Nat.add_assoc, Nat.add_comm 1 j]

theorem RowsAt.list {c : Array Value} {sz : Nat} : ∀ {o : Nat} {rs : List (List AV)}, RowsAt g c sz o rs → ∃ vs : List Value, vs.length = rs.length * sz ∧ (∀ v ∈ vs, v.oneCell' = true) ∧ (∀ (j : Nat) v, vs[j]? = some v → c[o + j]? = some v) ∧
    ∀ (c' : Array Value) (o' : Nat), (∀ (j : Nat) v, vs[j]? = some v → c'[o' + j]? = some v) → RowsAt g c' sz o' rs
  | o, [], _ => ⟨[], by simp, by simp, by simp, fun _ _ _ => by simp [RowsAt]⟩
  | o, r :: rs, h => by
    simp only [RowsAt] at h
    obtain ⟨h1, h2, h3⟩ := h
    obtain ⟨us, b1, b2, b3, b4⟩ := h2.list
    obtain ⟨vs, a1, a2, a3, a4⟩ := h3.list
    have hul : us.length = sz := by omega
    refine ⟨us ++ vs, by simp [a1, hul, Nat.add_mul]; omega, ?_, ?_, ?_⟩
    · intro u hu
      rcases List.mem_append.1 hu with hu | hu
      · exact b2 u hu
      · exact a2 u hu
    · intro j u hu
      rw [List.getElem?_append] at hu
      split at hu
      · exact b3 j u hu
      · have := a3 _ u hu
        rwa [hul, show o + sz + (j - sz) = o + j from by omega] at this
    · intro c' o' hc
      simp only [RowsAt]
      refine ⟨h1, b4 c' o' fun j u hu => hc j u ?_, a4 c' (o' + sz) fun j u hu => ?_⟩
      · rw [List.getElem?_append, if_pos (List.getElem?_eq_some_iff.1 hu).1]; exact hu
      · have := hc (sz + j) u (by rw [List.getElem?_append, if_neg (by omega), hul, Nat.add_sub_cancel_left]; exact hu)
        rwa [← Nat.add_assoc] at this

end
end Go.Proofs.YtggcmnoacplbkaaDoor.AM
