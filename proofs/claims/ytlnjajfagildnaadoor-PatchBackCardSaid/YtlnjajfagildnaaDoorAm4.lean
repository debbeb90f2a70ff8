/- The abstract machine, part 4: operations that read, write and make memory; calls. -/
import Derived.Test.YtlnjajfagildnaaDoorAm3
import Derived.Laws.MakeOwn
namespace Go.Proofs.YtlnjajfagildnaaDoor.AM
open Go
set_option linter.unusedVariables false
set_option linter.unusedSimpArgs false

/-- How a call ends. -/
inductive AE where
  | ret (x : AV)
  | pan (x : AV)

def callable (P : Program) (f : Nat) : Prop := ∃ fn, P.funcs[f]? = some fn ∧ (fn.name == "runtime.NumGoroutine") = false ∧ fn.body.isNone = false

/-- What a call does, by abstract values and heaps. -/
def ACalls (P : Program) (f : Nat) (args : List AV) (h : Hp) (Q : AE → Hp → Prop) : Prop :=
  callable P f ∧ ∀ (g : Gh) (w : World) (vs : Array Value), VRs g args vs.toList → HR g h w →
    Calls P f vs w fun e w' => ∃ g' h' E, g.le g' ∧ HR g' h' w' ∧ Q E h' ∧ match E, e with
      | .ret x, .returned v => VR g' x v
      | .pan x, .panicked chain => ∃ v, chain = [{ v, recovered := false }] ∧ VR g' x v
      | _, _ => False

/-- A call that always comes to one value, and changes nothing that is told of. -/
def APure (P : Program) (f : Nat) (args : List AV) (x : AV) : Prop := ∀ h, ACalls P f args h fun e h' => e = .ret x ∧ h' = h

theorem ACalls.mono {P : Program} {f : Nat} {args : List AV} {h : Hp} {Q Q' : AE → Hp → Prop} (k : ACalls P f args h Q) (hq : ∀ e h', Q e h' → Q' e h') : ACalls P f args h Q' :=
  ⟨k.1, fun g w vs hv hh => (k.2 g w vs hv hh).mono fun e w' ⟨g', h', E, a, b, c, d⟩ => ⟨g', h', E, a, b, hq _ _ c, d⟩⟩

/-! ### sources and targets of append, copy -/
def aSrc (sz : Nat) (kx : TK) (x : AV) (h : Hp) : Option (List (List AV)) :=
  match kx, x with
  | .sl _, .isl sz' rows => if sz' = sz then some rows else none
  | .sl _, .osl b sz' off len => match h b with
    | some o => if sz' = sz ∧ o.sz = sz ∧ off + len ≤ o.rows.length then some ((o.rows.drop off).take len) else none
    | none => none
  | .sl _, .val (.slice none 0 0) => some []
  | .str, .val (.string s) => if sz = 1 then some (s.data.toList.map fun b => [abyte b.toNat]) else none
  | _, _ => none

def aDst (sz : Nat) (s : AV) (h : Hp) : Option (List (List AV) × Option (Nat × Option (Nat × Nat))) :=
  match s with
  | .val (.slice none 0 0) => some ([], none)
  | .osl b sz' 0 len => match h b with
    | some o => if sz' = sz ∧ o.sz = sz ∧ len ≤ o.rows.length then some (o.rows.take len, some (b, o.ty)) else none
    | none => none
  | _ => none

def aAppend (T : Tab) (t tx : Nat) (s x : AV) (h : Hp) (k : AV → Hp → Prop) : Prop :=
  match T t, T tx with
  | some ti, some tix => match ti.kind with
    | .sl e => match T e with
      | some ei => match aDst ei.size s h, aSrc ei.size tix.kind x h with
        | some (rs, ob), some xs =>
          (rs.length + xs.length) * ei.bytes ≤ 140737488355328 ∧ 0 < ei.size ∧ 0 < ei.bytes ∧
          match ob with
          | none => (xs = [] → k anil h) ∧ (xs ≠ [] → ∀ b, h b = none → k (.osl b ei.size 0 xs.length) (h.upd b ⟨ei.size, xs, some (e, 0)⟩))
          | some (b0, ty) => ∀ b, h.del b0 b = none → k (.osl b ei.size 0 (rs.length + xs.length)) ((h.del b0).upd b ⟨ei.size, rs ++ xs, keepTy e ty⟩)
        | _, _ => False
      | none => False
    | _ => False
  | _, _ => False

/-- a slice of which it is not known whether it is nil, held against nil -/
def nilCmp (T : Tab) (op : BinOp) (t : Nat) (x : AV) (y : Operand) (h : Hp) (k : AV → Hp → Prop) : Prop :=
  match T t with
  | some ti => match ti.kind, op, x, y with
    | .sl _, .eql, .isl _ rows, .const (.slice none 0 0) => (rows = [] → k (abool true) h) ∧ k (abool false) h
    | .sl _, .neq, .isl _ rows, .const (.slice none 0 0) => (rows = [] → k (abool false) h) ∧ k (abool true) h
    | _, _, _, _ => False
  | none => False

def aClear (T : Tab) (t : Nat) (x : AV) (h : Hp) (k : AV → Hp → Prop) : Prop :=
  match T t with
  | some ti => match ti.kind, x with
    | .sl e, .osl b sz off len => match T e, h b with
      | some ei, some o => o.sz = sz ∧ ei.size = sz ∧ off + len ≤ o.rows.length ∧ k (.tup []) (h.upd b ⟨sz, o.rows.take off ++ (List.replicate len (ei.zero.map .val) ++ o.rows.drop (off + len)), o.ty⟩)
      | _, _ => False
    | .sl _, .val (.slice none 0 0) => k (.tup []) h
    | _, _ => False
  | none => False

/-- bytes in a row of cells -/
def bytesOf : List (List AV) → Option (List UInt8)
  | [] => some []
  | [.val (.int .u8 n)] :: rs => match bytesOf rs with
    | some l => some (UInt8.ofNat n.toNat :: l)
    | none => none
  | _ :: _ => none
/-- bytes, taken as a text -/
def aText (T : Tab) (s d : Nat) (x : AV) (h : Hp) : Option AV :=
  match T s, T d with
  | some si, some di => match si.kind, di.kind with
    | .sl e, .str => match T e with
      | some ei => match ei.kind, aSrc 1 si.kind x h with
        | .int .u8, some rows => match bytesOf rows with
          | some l => some (astr ⟨l.toArray⟩)
          | none => none
        | _, _ => none
      | none => none
    | _, _ => none
  | _, _ => none

/-- rows of a slice literal -/
def arows (sz : Nat) : List (List AV) → List (Nat × AV) → Option (List (List AV))
  | rows, [] => some rows
  | rows, (i, x) :: rest => if x.okCells = true ∧ x.cells.length = sz ∧ i < rows.length then arows sz (rows.set i x.cells) rest else none

/-- What an operation comes to: its value and the heap behind it are handed to k; a panic's value to X. -/
def aRes (P : Program) (T : Tab) (pure : Bool) (op : Op) (ρ : Operand → AV) (h : Hp) (k : AV → Hp → Prop) (X : AV → Hp → Prop) : Prop :=
  match op with
  | .alloc t => match T t with
    | some ti => ∀ b, h b = none → k (.optr b ti.size 0 0) (h.upd b ⟨ti.size, [ti.zero.map .val], some (t, ti.size)⟩)
    | none => False
  | .box t x => match T t with
    | some ti => (ρ x).okCells = true ∧ (ρ x).cells.length = ti.size ∧ ∀ b, h b = none → k (.optr b ti.size 0 0) (h.upd b ⟨ti.size, [(ρ x).cells], some (t, ti.size)⟩)
    | none => False
  | .load t x => match ρ x with
    | .optr b sz i c => if pure = true then False else match T t, h b with
      | some ti, some o => match o.rows[i]? with
        | some r => o.sz = sz ∧ match apart ti r c with
          | some y => k y h
          | none => False
        | none => False
      | _, _ => False
    | y => match aloadI T t y with
      | some z => k z h
      | none => False
  | .store t p x => match T t, ρ p with
    | some ti, .optr b sz i c => match h b with
      | some o => match o.rows[i]? with
        | some r => o.sz = sz ∧ (ρ x).okCells = true ∧ (ρ x).cells.length = ti.size ∧ c + ti.size ≤ r.length ∧
            k .any (h.upd b ⟨sz, o.rows.set i (r.take c ++ (ρ x).cells ++ r.drop (c + ti.size)), o.ty⟩)
        | none => False
      | none => False
    | _, _ => False
  | .buildSlice t len parts => match T t with
    | some ti => match ti.kind with
      | .sl e => match T e with
        | some ei => 0 < ei.size ∧ len * ei.size ≤ 16777216 ∧ match arows ei.size (List.replicate len (ei.zero.map .val)) (parts.toList.map fun p => (p.1, ρ p.2)) with
          | some rows => ∀ b, h b = none → k (.osl b ei.size 0 len) (h.upd b ⟨ei.size, rows, some (e, 0)⟩)
          | none => False
        | none => False
      | _ => False
    | none => False
  | .makeSlice t l c => match T t, ρ l, ρ c with
    | some ti, .val (.int _ m), .val (.int _ n) => match ti.kind with
      | .sl e => match T e with
        | some ei => 0 < ei.size ∧ 0 ≤ m ∧ m ≤ n ∧ (ei.bytes : Int) * n ≤ 281474976710656 ∧ n ≤ 9223372036854775807 ∧
            ∀ b, h b = none → k (.osl b ei.size 0 m.toNat) (h.upd b ⟨ei.size, List.replicate m.toNat (ei.zero.map .val), some (e, 0)⟩)
        | none => False
      | _ => False
    | _, _, _ => False
  | .call ⟨.builtin .append, args, tys⟩ => match args.toList, tys.toList with
    | [s, x], [t, tx] => aAppend T t tx (ρ s) (ρ x) h k
    | _, _ => False
  | .call ⟨.value f, args, _⟩ => match ρ f with
    | .fn (.func n) first caps =>
      if pure = true then ∃ x, APure P n (first ++ args.toList.map ρ ++ caps) x ∧ k x h
      else ACalls P n (first ++ args.toList.map ρ ++ caps) h fun e h' => match e with
        | .ret x => k x h'
        | .pan x => X x h'
    | _ => False
  | .panic x => match ρ x with
    | .ifc t y => X (.ifc t y) h
    | _ => False
  | .call ⟨.builtin .clear, args, tys⟩ => match args.toList, tys.toList with
    | [x], [t] => aClear T t (ρ x) h k
    | _, _ => False
  | .binOp op t x y yt => match acalm T (.binOp op t x y yt) ρ with
    | some z => k z h
    | none => nilCmp T op t (ρ x) y h k
  | .convert s d x => match acalm T (.convert s d x) ρ with
    | some z => k z h
    | none => match aText T s d (ρ x) h with
      | some z => k z h
      | none => False
  | op => match acalm T op ρ with
    | some x => k x h
    | none => False

/-! ### what the heap's relation keeps -/
section
variable {P : Program} {T : Tab} {g : Gh} {h : Hp} {w : World}

theorem HR.fresh (k : HR g h w) : h w.heap.size = none ∧ g.fz w.heap.size = none ∧ g.shp w.heap.size = none := by
  have none_ : ∀ o : Obj, w.heap[w.heap.size]? ≠ some o := fun o e => by simp at e
  refine ⟨?_, ?_, ?_⟩
  · cases e : h w.heap.size with
    | none => rfl
    | some o => obtain ⟨_, c, t, hc, _⟩ := k.ob _ o e; exact absurd hc (none_ _)
  · cases e : g.fz w.heap.size with
    | none => rfl
    | some o => exact absurd (k.fz _ o e) (none_ _)
  · cases e : g.shp w.heap.size with
    | none => rfl
    | some o =>
      have := k.shp _ o e
      simp [World.shape?] at this

def Gh.new (g : Gh) (b : Nat) (x : TypeId × Nat) : Gh := { g with shp := fun k => if k = b then some x else g.shp k }
theorem Gh.new_le {g : Gh} {b : Nat} {x : TypeId × Nat} (h : g.shp b = none) : g.le (g.new b x) :=
  ⟨rfl, fun _ _ h => h, fun k y hk => by
    simp only [Gh.new]
    rw [if_neg]; exact hk
    intro e; subst e; rw [h] at hk; cases hk⟩

theorem HR.alloc (k : HR g h w) {c : Array Value} {e : TypeId} {sz : Nat} {rows : List (List AV)} (hr : RowsAt g c sz 0 rows) (ty : Option (Nat × Nat)) (hty : TyOK (some (e, c.size)) ty) :
    g.le (g.new w.heap.size (e, c.size)) ∧ HR (g.new w.heap.size (e, c.size)) (h.upd w.heap.size ⟨sz, rows, ty⟩) (w.alloc (.cells c e)) := by
  obtain ⟨f1, f2, f3⟩ := k.fresh
  have hle : g.le (g.new w.heap.size (e, c.size)) := Gh.new_le f3
  have old : ∀ (b : Nat) (o : Obj), w.heap[b]? = some o → (w.alloc (.cells c e)).heap[b]? = some o := fun b o hb => by
    have hlt := (Array.getElem?_eq_some_iff.1 hb).1
    show (w.heap.push _)[b]? = _
    rw [Array.getElem?_push, if_neg (by omega)]; exact hb
  have new : (w.alloc (.cells c e)).heap[w.heap.size]? = some (.cells c e) := by
    show (w.heap.push _)[w.heap.size]? = _
    simp
  refine ⟨hle, ?_⟩
  constructor
  · exact k.os
  · exact k.tape
  · exact k.output
  · show g.w0.heap.size ≤ _
    rw [World.size_alloc]; have := k.size; omega
  · exact fun b o hb => old b o (k.fz b o hb)
  · intro b x hb
    simp only [Gh.new] at hb
    split at hb
    · rename_i e1; subst e1; cases hb
      simp only [World.shape?, new]
    · have h1 := k.shp b x hb
      have : (w.alloc (.cells c e)).heap[b]? = w.heap[b]? := by
        cases e2 : w.heap[b]? with
        | none => simp [World.shape?, e2] at h1
        | some o => exact old b o e2
      simpa only [World.shape?, this] using h1
  · intro b o hb
    simp only [Hp.upd] at hb
    split at hb
    · rename_i e1; subst e1; cases hb
      exact ⟨⟨f2, by simp only [Gh.new, if_true]; exact hty⟩, c, e, new, by simp [Gh.new], hr.mono hle c sz 0 rows⟩
    · rename_i hne
      obtain ⟨a1, c', e', a2, a3, a4⟩ := k.ob b o hb
      exact ⟨⟨a1.1, a1.2.mono fun y hy => hle.shp _ _ hy⟩, c', e', old b _ a2, by simp only [Gh.new]; rw [if_neg hne]; exact a3, a4.mono hle c' o.sz 0 o.rows⟩
  · exact glob_mono hle.fz k.gl

theorem HR.set (k : HR g h w) {b : Nat} {o : Ob} (hb : h b = some o) {c : Array Value} {e : TypeId} (hc : w.heap[b]? = some (.cells c e (0, 0))) {c' : Array Value} (hs : c'.size = c.size) {rows : List (List AV)} {sz : Nat}
    (hr : RowsAt g c' sz 0 rows) (ty : Option (Nat × Nat)) (hty : TyOK (g.shp b) o.ty → TyOK (g.shp b) ty) : HR g (h.upd b ⟨sz, rows, ty⟩) (w.setRow b c') := by
  obtain ⟨q1, c0, e0, q2, q3, q4⟩ := k.ob b o hb
  rw [hc] at q2; cases q2
  have same := setRow_heap w b c c' e (0, 0) hc
  have old : ∀ x, x ≠ b → (w.setRow b c').heap[x]? = w.heap[x]? := fun x hx => setRow_other w b x c' hx
  constructor
  · exact k.os
  · exact k.tape
  · exact k.output
  · rw [size_setRow]; exact k.size
  · intro x y hx
    rw [old x]; exact k.fz x y hx
    intro e1; subst e1; rw [q1.1] at hx; cases hx
  · intro x y hx
    by_cases e1 : x = b
    · subst e1
      have := k.shp x y hx
      simp only [World.shape?, hc] at this
      simp only [World.shape?, same, hs]; exact this
    · simpa only [World.shape?, old x e1] using k.shp x y hx
  · intro x y hx
    simp only [Hp.upd] at hx
    split at hx
    · rename_i e1; subst e1; cases hx
      exact ⟨⟨q1.1, hty q1.2⟩, c', e, same, by rw [hs]; exact q3, hr⟩
    · rename_i hne
      obtain ⟨a1, c2, e2, a2, a3, a4⟩ := k.ob x y hx
      exact ⟨a1, c2, e2, by rw [old x hne]; exact a2, a3, a4⟩
  · exact k.gl

theorem HR.del (k : HR g h w) (b : Nat) : HR g (h.del b) w := k.forget fun x o hx => by
  simp only [Hp.del] at hx
  split at hx
  · cases hx
  · exact hx

theorem one_row {c : Array Value} {xs : List AV} (h1 : CellsAt g c 0 xs) : RowsAt g c xs.length 0 [xs] := by
  simp only [RowsAt]; exact ⟨trivial, h1, trivial⟩

theorem RowsAt.splice {c c' : Array Value} {sz : Nat} {rows : List (List AV)} {i co : Nat} {r xs : List AV} (hr : RowsAt g c sz 0 rows) (hi : rows[i]? = some r) (hco : co + xs.length ≤ sz)
    (hout : ∀ k, (k < i * sz + co ∨ i * sz + co + xs.length ≤ k) → c'[k]? = c[k]?) (hx : CellsAt g c' (i * sz + co) xs) :
    RowsAt g c' sz 0 (rows.set i (r.take co ++ xs ++ r.drop (co + xs.length))) :=
  RowsAt.of_get fun j q hq => by
    rw [List.getElem?_set] at hq
    split at hq
    · rename_i e1; subst e1
      split at hq <;> cases hq
      obtain ⟨l1, l2⟩ := hr.get hi
      refine ⟨by simp [l1]; omega, ?_⟩
      rw [Nat.zero_add] at l2 ⊢
      have e1 : (r.take co).length = co := by simp; omega
      refine ((l2.take co).congr fun k hk => hout _ ?_).append ?_ |>.append ?_
      · rw [e1] at hk; left; omega
      · rw [e1]; exact hx
      · have e2 : (r.take co ++ xs).length = co + xs.length := by simp; omega
        rw [e2]
        have l3 := l2.drop (co + xs.length)
        refine l3.congr fun k hk => ?_
        rw [hout]
        right; omega
    · rename_i hne
      obtain ⟨l1, l2⟩ := hr.get hq
      refine ⟨l1, l2.congr fun k hk => hout _ ?_⟩
      rw [l1] at hk
      rw [Nat.zero_add]
      rcases Nat.lt_or_gt_of_ne hne with hlt | hlt
      · right
        have : (i + 1) * sz ≤ j * sz := Nat.mul_le_mul_right _ hlt
        rw [Nat.add_mul] at this; omega
      · left
        have : (j + 1) * sz ≤ i * sz := Nat.mul_le_mul_right _ hlt
        rw [Nat.add_mul] at this; omega

/-- what a splice of cells holds -/
theorem splice_get (cur : Array Value) (vs : List Value) (o : Nat) (h : o + vs.length ≤ cur.size) (k : Nat) :
    ((cur.toList.take o ++ vs ++ cur.toList.drop (o + vs.length)).toArray)[k]? = if o ≤ k ∧ k < o + vs.length then vs[k - o]? else cur[k]? := by
  rw [List.getElem?_toArray, List.append_assoc, List.getElem?_append, List.length_take, Array.length_toList]
  split
  · rw [if_neg (by omega), List.getElem?_take, if_pos (by omega)]; simp
  · rw [List.getElem?_append]
    split
    · rw [if_pos (by omega)]; congr 1; omega
    · rw [if_neg (by omega), List.getElem?_drop]; simp; congr 1; omega

theorem splice_size (cur : Array Value) (vs : List Value) (o : Nat) (h : o + vs.length ≤ cur.size) : ((cur.toList.take o ++ vs ++ cur.toList.drop (o + vs.length)).toArray).size = cur.size := by
  simp; omega

/-- a row of cells as a list of values -/
theorem CellsAt.list {c : Array Value} : ∀ {o : Nat} {xs : List AV}, CellsAt g c o xs → ∃ vs : List Value, vs.length = xs.length ∧ (∀ v ∈ vs, v.oneCell' = true) ∧ (∀ (j : Nat) v, vs[j]? = some v → c[o + j]? = some v) ∧
    ∀ (c' : Array Value) (o' : Nat), (∀ (j : Nat) v, vs[j]? = some v → c'[o' + j]? = some v) → CellsAt g c' o' xs
  | o, [], _ => ⟨[], rfl, by simp, by simp, fun _ _ _ => by simp [CellsAt]⟩
  | o, x :: xs, h => by
    simp only [CellsAt] at h
    obtain ⟨⟨v, h1, h2, h3⟩, h4⟩ := h
    obtain ⟨vs, a1, a2, a3, a4⟩ := h4.list
    refine ⟨v :: vs, by simp [a1], ?_, ?_, ?_⟩
    · intro u hu
      cases hu with
      | head => exact h2
      | tail _ hu => exact a2 u hu
    · intro j u hu
      cases j with
      | zero => simp at hu; subst hu; simpa using h1
      | succ j => have := a3 j u (by simpa using hu); rwa [Nat.add_assoc, Nat.add_comm 1 j] at this
    · intro c' o' hc
      simp only [CellsAt]
      refine ⟨⟨v, by simpa using hc 0 v (by simp), h2, h3⟩, a4 c' (o' + 1) fun j u hu => ?_⟩
      have := hc (j + 1) u (by simpa using hu)
      rwa [Nat.add_assoc, Nat.add_comm 1 j]

theorem RowsAt.list {c : Array Value} {sz : Nat} : ∀ {o : Nat} {rs : List (List AV)}, RowsAt g c sz o rs → ∃ vs : List Value, vs.length = rs.length * sz ∧ (∀ v ∈ vs, v.oneCell' = true) ∧ (∀ (j : Nat) v, vs[j]? = some v → c[o + j]? = some v) ∧
    ∀ (c' : Array Value) (o' : Nat), (∀ (j : Nat) v, vs[j]? = some v → c'[o' + j]? = some v) → RowsAt g c' sz o' rs
  | o, [], _ => ⟨[], by simp, by simp, by simp, fun _ _ _ => by simp [RowsAt]⟩
  | o, r :: rs, h => by
    simp only [RowsAt] at h
    obtain ⟨h1, h2, h3⟩ := h
    obtain ⟨us, b1, b2, b3, b4⟩ := h2.list
    obtain ⟨vs, a1, a2, a3, a4⟩ := h3.list
    have hul : us.length = sz := by omega
    refine ⟨us ++ vs, by simp [a1, hul, Nat.add_mul]; omega, ?_, ?_, ?_⟩
    · intro u hu
      rcases List.mem_append.1 hu with hu | hu
      · exact b2 u hu
      · exact a2 u hu
    · intro j u hu
      rw [List.getElem?_append] at hu
      split at hu
      · exact b3 j u hu
      · have := a3 _ u hu
        rwa [hul, show o + sz + (j - sz) = o + j from by omega] at this
    · intro c' o' hc
      simp only [RowsAt]
      refine ⟨h1, b4 c' o' fun j u hu => hc j u ?_, a4 c' (o' + sz) fun j u hu => ?_⟩
      · rw [List.getElem?_append, if_pos (List.getElem?_eq_some_iff.1 hu).1]; exact hu
      · have := hc (sz + j) u (by rw [List.getElem?_append, if_neg (by omega), hul, Nat.add_sub_cancel_left]; exact hu)
        rwa [← Nat.add_assoc] at this

end
end Go.Proofs.YtlnjajfagildnaaDoor.AM
