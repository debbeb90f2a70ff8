/- The abstract machine, part 3: building values; all calm operations in one theorem. -/
import Derived.Test.YtggcmnoacplbkaaDoorAm2
namespace Go.Proofs.YtggcmnoacplbkaaDoor.AM
open Go
set_option linter.unusedVariables false
set_option linter.unusedSimpArgs false

theorem foldl_put (off : Nat) : ∀ (l : List Value) (n : Nat) (cs : Array Value) (k : Nat),
    ((l.zipIdx n).foldl (fun (cs : Array Value) (x : Value × Nat) => cs.setIfInBounds (off + x.2) x.1) cs)[k]? =
      if off + n ≤ k ∧ k < off + n + l.length then (if k < cs.size then l[k - (off + n)]? else none) else cs[k]?
  | [], n, cs, k => by simp; intro a b; omega
  | v :: l, n, cs, k => by
    rw [List.zipIdx_cons, List.foldl_cons, foldl_put off l (n + 1)]
    simp only [Array.size_setIfInBounds, List.length_cons, Array.getElem?_setIfInBounds]
    by_cases h1 : k = off + n
    · subst h1
      rw [if_neg (by omega), if_pos rfl]
      simp
    · by_cases h2 : off + n ≤ k ∧ k < off + n + (l.length + 1)
      · rw [if_pos (by omega), if_pos h2]
        congr 1
        rw [show k - (off + n) = (k - (off + (n + 1))) + 1 from by omega, List.getElem?_cons_succ]
      · rw [if_neg (by omega), if_neg h2, if_neg (by omega)]

theorem foldl_put_size (off : Nat) : ∀ (l : List (Value × Nat)) (cs : Array Value), (l.foldl (fun (cs : Array Value) (x : Value × Nat) => cs.setIfInBounds (off + x.2) x.1) cs).size = cs.size
  | [], cs => rfl
  | v :: l, cs => by rw [List.foldl_cons, foldl_put_size off l]; simp

/-- what a part laid into a row of cells makes of it -/
def laid (cs : Array Value) (off : Nat) (v : Array Value) : Array Value := v.zipIdx.foldl (fun cs (x : Value × Nat) => cs.setIfInBounds (off + x.2) x.1) cs
theorem laid_size (cs : Array Value) (off : Nat) (v : Array Value) : (laid cs off v).size = cs.size := by
  unfold laid; rw [← Array.foldl_toList]; exact foldl_put_size off _ cs
theorem laid_get (cs : Array Value) (off : Nat) (v : Array Value) (h : off + v.size ≤ cs.size) (k : Nat) :
    (laid cs off v)[k]? = if off ≤ k ∧ k < off + v.size then v[k - off]? else cs[k]? := by
  unfold laid
  rw [← Array.foldl_toList, Array.toList_zipIdx, foldl_put off v.toList 0 cs k]
  simp only [Nat.add_zero, Array.length_toList, Array.getElem?_toList]
  split
  · rename_i hk
    rw [if_pos (by omega)]
  · rfl

section
variable {P : Program} {T : Tab} {g : Gh} {w : World}

def PRs (g : Gh) : List (Nat × AV) → List (Nat × Value) → Prop
  | [], [] => True
  | x :: xs, v :: vs => x.1 = v.1 ∧ VR g x.2 v.2 ∧ PRs g xs vs
  | _, _ => False

theorem CellsAt.laid {c : Array Value} {cs : List AV} (hc : CellsAt g c 0 cs) (hl : c.size = cs.length) {v : Array Value} {xs : List AV} (hv : CellsAt g v 0 xs) (hvl : v.size = xs.length) {off : Nat}
    (hle : off + xs.length ≤ cs.length) : CellsAt g (laid c off v) 0 (cs.take off ++ xs ++ cs.drop (off + xs.length)) :=
  CellsAt.of_get fun k x hx => by
    rw [Nat.zero_add, laid_get c off v (by omega)]
    rw [List.append_assoc, List.getElem?_append, List.length_take] at hx
    split at hx
    · rw [if_neg (by omega)]
      rw [List.getElem?_take] at hx
      split at hx
      · simpa using hc.get hx
      · cases hx
    · rw [List.getElem?_append] at hx
      split at hx
      · rw [if_pos (by omega)]
        have := hv.get hx
        rwa [Nat.zero_add, show k - min off cs.length = k - off from by omega] at this
      · rw [List.getElem?_drop] at hx
        rw [if_neg (by omega)]
        have := hc.get hx
        rwa [Nat.zero_add, show off + xs.length + (k - min off cs.length - xs.length) = k from by omega] at this

theorem fill_run {pl : Nat → Option (Nat × Nat)} {place : Nat → Option (Nat × Nat)} (hp : ∀ i p, pl i = some p → place i = some p) :
    ∀ {parts : List (Nat × AV)} {vs : List (Nat × Value)} {c : Array Value} {cs cs' : List AV}, CellsAt g c 0 cs → c.size = cs.length → PRs g parts vs → afill pl cs parts = some cs' →
      ∃ c', Instr.fill place c vs = some c' ∧ CellsAt g c' 0 cs' ∧ c'.size = cs'.length
  | [], [], c, cs, cs', hc, hl, _, h => by simp only [afill] at h; cases h; exact ⟨c, rfl, hc, hl⟩
  | (i, x) :: parts, (i', v) :: vs, c, cs, cs', hc, hl, hpr, h => by
    simp only [PRs] at hpr
    obtain ⟨rfl, hx, hpr⟩ := hpr
    simp only [afill] at h
    split at h <;> try cases h
    rename_i off size hi
    split at h <;> try cases h
    rename_i hcond
    obtain ⟨h1, h2, h3⟩ := hcond
    obtain ⟨hv1, hv2⟩ := hx.okCells h1
    have hsz : v.cells.size = size := by omega
    have hlaid := CellsAt.laid hc hl hv1 hv2 (off := off) (by omega)
    rw [h2] at hlaid
    obtain ⟨c', e1, e2, e3⟩ := fill_run hp (c := laid c off v.cells) hlaid (by rw [laid_size]; simp; omega) hpr h
    refine ⟨c', ?_, e2, e3⟩
    simp only [Instr.fill, hp i _ hi]
    have n1 : (v.cells.size ≠ size) = False := by simp [hsz]
    have n2 : (off + v.cells.size > c.size) = False := by simp; omega
    simp only [n1, n2, decide_false, Bool.or_self, Bool.false_eq_true, if_false]
    exact e1
  | [], _ :: _, _, _, _, _, _, h, _ => by simp [PRs] at h
  | _ :: _, [], _, _, _, _, _, h, _ => by simp [PRs] at h

theorem zero_cells {ti : TI} {t : Nat} {i : TypeInfo} {d : TypeDesc} {z : Value} (ht : TIs P t ti i d z) : CellsAt g z.cells 0 (ti.zero.map .val) ∧ z.cells.size = (ti.zero.map AV.val).length := by
  constructor
  · have := VR.vals g z.cells (by rw [Array.all_eq_true_iff_forall_mem]; intro v hv; exact ht.zone v (by rw [← ht.zcells]; simpa using hv))
    rwa [ht.zcells] at this
  · rw [List.length_map, ← ht.zcells, Array.length_toList]

theorem abuild_run (hT : TabOK P T) {t : Nat} {parts : List (Nat × AV)} {vs : Array (Nat × Value)} {z : AV} (hp : PRs g parts vs.toList) (h : abuild T t parts = some z) :
    ∃ r, (Instr.build t vs).run P w = .ok r w ∧ VR g z r := by
  unfold abuild at h
  split at h <;> try cases h
  rename_i ti hti
  obtain ⟨i, d, z0, ht⟩ := hT.get hti
  split at h <;> try cases h
  rename_i hpl
  split at h <;> cases h
  rename_i cs hcs
  obtain ⟨hz1, hz2⟩ := zero_cells (g := g) ht
  cases hk : ti.kind <;> rw [hk] at hpl hcs <;> simp only [aplaces, Bool.false_eq_true] at hpl
  case arr n e =>
    have hd := ht.arr hk; subst hd
    cases he : T e with
    | none => rw [he] at hpl; simp at hpl
    | some ei =>
      obtain ⟨ie, de, ze, hte⟩ := hT.get he
      obtain ⟨c', e1, e2, e3⟩ := fill_run (g := g) (place := fun i => some (i * ie.size, ie.size)) (fun j p hj => by
        simp only [aplace, he, Option.some.injEq] at hj
        subst hj
        simp [hte.size]) hz1 hz2 hp hcs
      refine ⟨.agg c', ?_, by simp only [VR]; exact ⟨c', rfl, e2, e3⟩⟩
      refine run_build w t vs c' ?_
      simp [Program.built, ht.info, ht.und, ht.zero, hte.info, e1]
  case struct fs =>
    obtain ⟨fields, rfl, hfs⟩ := ht.struct hk
    have hall : ∀ f ∈ fields.toList, ∃ fi, T f.type = some fi := by
      intro f hf
      rw [List.all_eq_true] at hpl
      have := hpl (f.offset, f.type) (by rw [← hfs]; exact List.mem_map.2 ⟨f, hf, rfl⟩)
      exact Option.isSome_iff_exists.1 this
    have hplaces : ∀ l : List Field, (∀ f ∈ l, ∃ fi, T f.type = some fi) →
        ∃ places, l.mapM (fun f => (P.info? f.type).map fun i => (f.offset, i.size)) = some places ∧ ∀ (j : Nat) (f : Field) (fi : TI), l[j]? = some f → T f.type = some fi → places[j]? = some (f.offset, fi.size) := by
      intro l
      induction l with
      | nil => exact fun _ => ⟨[], rfl, by simp⟩
      | cons f l ih =>
        intro hl
        obtain ⟨places, h1, h2⟩ := ih fun f hf => hl f (by simp [hf])
        obtain ⟨fi, hfi⟩ := hl f (by simp)
        obtain ⟨i2, d2, z2, ht2⟩ := hT.get hfi
        refine ⟨(f.offset, i2.size) :: places, by simp [List.mapM_cons, ht2.info, h1], ?_⟩
        intro j f' fi' hj hf'
        cases j with
        | zero => simp at hj; subst hj; rw [hfi] at hf'; cases hf'; simp [ht2.size]
        | succ j => simpa using h2 j f' fi' (by simpa using hj) hf'
    obtain ⟨places, hp1, hp2⟩ := hplaces _ hall
    obtain ⟨c', e1, e2, e3⟩ := fill_run (g := g) (place := (places.toArray[·]?)) (fun j p hj => by
      simp only [aplace, ← hfs, List.getElem?_map] at hj
      cases hf : fields.toList[j]? with
      | none => simp [hf] at hj
      | some f =>
        simp only [hf, Option.map_some] at hj
        obtain ⟨fi, hfi⟩ := hall f (List.mem_of_getElem? hf)
        simp only [hfi, Option.some.injEq] at hj
        subst hj
        simpa using hp2 j f fi hf hfi) hz1 hz2 hp hcs
    refine ⟨.agg c', ?_, by simp only [VR]; exact ⟨c', rfl, e2, e3⟩⟩
    refine run_build w t vs c' ?_
    simp only [Program.built, ht.info, ht.und, ht.zero, hp1]
    exact e1

theorem aloadI_run (hT : TabOK P T) {h0 : Hp} (hh : HR g h0 w) {t : Nat} {x z : AV} {u : Value} (hx : VR g x u) (h : aloadI T t x = some z) :
    ∃ r, (Instr.loadAt t u).run P w = .ok r w ∧ VR g z r := by
  unfold aloadI at h
  split at h <;> try cases h
  rename_i ti r c hti
  obtain ⟨i, d, z0, ht⟩ := hT.get hti
  simp only [VR] at hx
  obtain ⟨a, cc, e, fr, rfl, hs, hle, hfz, hr⟩ := hx
  obtain ⟨r', hr', hv⟩ := load_run (w := w) hT ht hr h hs (by omega) (hh.fz _ _ hfz)
  exact ⟨r', by simp [Instr.loadAt, Instr.sureAddr, hr'], hv⟩

theorem PRs.of {ρ : Operand → AV} {a : Act} (h : ∀ x, VR g (ρ x) (a.eval x)) : ∀ (ps : List (Nat × Operand)), PRs g (ps.map fun p => (p.1, ρ p.2)) (ps.map fun p => (p.1, a.eval p.2))
  | [] => trivial
  | p :: ps => ⟨rfl, h p.2, PRs.of h ps⟩
theorem VRs.of {ρ : Operand → AV} {a : Act} (h : ∀ x, VR g (ρ x) (a.eval x)) : ∀ (xs : List Operand), VRs g (xs.map ρ) (xs.map a.eval)
  | [] => trivial
  | x :: xs => ⟨h x, VRs.of h xs⟩

theorem zeroV_ok {t : Nat} {ti : TI} {i : TypeInfo} {d : TypeDesc} {z : Value} (ht : TIs P t ti i d z) : zeroV ti = z := by
  unfold zeroV
  rw [← ht.zagg, ← ht.zcells]
  cases z <;> simp [isAggV, Value.cells]
theorem eqIn_ifc_nn (n : Nat) {t : Nat} {ms : Array (String × TypeId)} (h : P.underlying t = some (.interface ms)) : (Op.equalIn (n + 1) t .nilIface .nilIface).run P w = .ok true w := by
  simp [Op.equalIn, run_underlying h]
theorem eqIn_ifc_n (n : Nat) {t : Nat} {ms : Array (String × TypeId)} (h : P.underlying t = some (.interface ms)) (s : TypeId) (v : Value) : (Op.equalIn (n + 1) t (.iface s v) .nilIface).run P w = .ok false w := by
  simp [Op.equalIn, run_underlying h]
theorem aifc_run {op : BinOp} {t : Nat} {ti : TI} {i : TypeInfo} {d : TypeDesc} {z0 : Value} (ht : TIs P t ti i d z0) (hk : ti.kind = .iface) {x z : AV} {ox y : Operand} {u : Value} (hx : VR g x u) {a : Act} (h : aifc op x y = some z) :
    ∃ r, (do eqGuard op t ox y u (a.eval y); binOp op t u (a.eval y) : Sem Value).run P w = .ok r w ∧ VR g z r := by
  obtain ⟨ms, hd⟩ : ∃ ms, d = .interface ms := by
    have := ht.kind; rw [hk] at this; cases d <;> simp [kindOf] at this; exact ⟨_, rfl⟩
  have hu := ht.und; rw [hd] at hu
  have e1 := eqIn_ifc_nn (P := P) (w := w) 9999 hu
  have e2 := eqIn_ifc_n (P := P) (w := w) 9999 hu
  have r1 := run_eql (P := P) (w := w) (t := t) (u := .nilIface) (v := .nilIface) ox (.const .nilIface) (by simp) (by simp) (by intro op; cases op <;> simp [eqGuard]) (by simp [binOp]) e1
  have r2 := fun s v => run_eql (P := P) (w := w) (t := t) (u := .iface s v) (v := .nilIface) ox (.const .nilIface) (by simp) (by simp) (by intro op; cases op <;> simp [eqGuard]) (by simp [binOp]) (e2 s v)
  unfold aifc at h
  split at h <;> cases h
  · simp only [VR] at hx; subst hx
    exact ⟨_, r1.1, by simp [VR, abool]⟩
  · simp only [VR] at hx; subst hx
    exact ⟨_, r1.2, by simp [VR, abool]⟩
  · simp only [VR] at hx; obtain ⟨v, rfl, _⟩ := hx
    exact ⟨_, (r2 _ v).1, by simp [VR, abool]⟩
  · simp only [VR] at hx; obtain ⟨v, rfl, _⟩ := hx
    exact ⟨_, (r2 _ v).2, by simp [VR, abool]⟩
theorem atas_run {t xt : Nat} {ti : TI} {i : TypeInfo} {d : TypeDesc} {z0 : Value} (ht : TIs P t ti i d z0) {x z : AV} {u : Value} (hx : VR g x u) (h : atas ti t x = some z) :
    ∃ r, (Instr.typeAssert u xt t true).run P w = .ok r w ∧ VR g z r := by
  have hz : (zeroValue t).run P w = .ok (zeroV ti) w := by rw [zeroV_ok ht]; exact ht.run_zero w
  have hni : ti.kind ≠ .iface := by intro e; unfold atas at h; rw [e] at h; cases h
  have hd : ∀ ms, d ≠ .interface ms := by
    intro ms e
    have := ht.kind; rw [e] at this; exact hni this.symm
  have h1 : (∀ u v, x = .ifc u v → (if u = t then AV.tup [v, abool true] else .tup [constAV (zeroV ti), abool false]) = z) ∧ (x = .val .nilIface → AV.tup [constAV (zeroV ti), abool false] = z) ∧ ((∃ u v, x = .ifc u v) ∨ x = .val .nilIface) := by
    unfold atas at h
    generalize hkk : ti.kind = kk at h hni
    split at h
    · exact absurd rfl hni
    · cases h; exact ⟨fun u v e => by cases e; rfl, fun e => (by cases e), .inl ⟨_, _, rfl⟩⟩
    · cases h; exact ⟨fun u v e => (by cases e), fun _ => rfl, .inr rfl⟩
    · cases h
  clear h
  have zz : VR g (.tup [constAV (zeroV ti), abool false]) (.tuple #[zeroV ti, .bool false]) := by
    simp only [VR]; exact ⟨_, rfl, constAV_ok g _, by simp [VR, abool], trivial⟩
  obtain ⟨h1, h2, ⟨s, v, rfl⟩ | rfl⟩ := h1
  · have h1 := h1 s v rfl
    simp only [VR] at hx
    obtain ⟨y, rfl, hy⟩ := hx
    by_cases e : s = t
    · subst e
      rw [if_pos rfl] at h1; subst h1
      refine ⟨.tuple #[y, .bool true], ?_, by simp only [VR]; exact ⟨_, rfl, hy, by simp [VR, abool], trivial⟩⟩
      unfold Instr.typeAssert
      rw [Sem.run_bind, ht.run_und]
      cases d <;> first | (exact absurd rfl (hd _)) | simp
    · rw [if_neg e] at h1; subst h1
      refine ⟨.tuple #[zeroV ti, .bool false], ?_, zz⟩
      unfold Instr.typeAssert
      rw [Sem.run_bind, ht.run_und]
      cases d <;> first | (exact absurd rfl (hd _)) | simp [e, hz]
  · have h2 := h2 rfl
    subst h2
    simp only [VR] at hx; subst hx
    refine ⟨.tuple #[zeroV ti, .bool false], ?_, zz⟩
    unfold Instr.typeAssert
    rw [Sem.run_bind, ht.run_und]
    cases d <;> first | (exact absurd rfl (hd _)) | simp [hz]
theorem acalm_run (hT : TabOK P T) {h0 : Hp} (hh : HR g h0 w) {ρ : Operand → AV} {a : Act} (ht : ∀ x, VR g (ρ x) (a.eval x)) {o : Oper} {z : AV} (h : acalm T o.op ρ = some z) :
    ∃ r, (execOp a.eval o).run P w = .ok (.value r) w ∧ VR g z r := by
  have lift : ∀ {s : Sem Value} {r : Value}, s.run P w = .ok r w → (do pure (Next.value (← s)) : Sem Next).run P w = .ok (.value r) w := by
    intro s r hs; simp [hs]
  unfold acalm at h
  split at h
  · rename_i x ho; cases h
    exact ⟨_, by simp [execOp, ho], ht x⟩
  · rename_i x ho; cases h
    exact ⟨_, by simp [execOp, ho], ht x⟩
  · rename_i c x y ho
    split at h <;> cases h
    rename_i b hb
    have := ht c
    rw [hb] at this
    simp only [VR] at this
    refine ⟨if b then a.eval x else a.eval y, by simp [execOp, ho, this, asBool], ?_⟩
    split
    · exact ht x
    · exact ht y
  · rename_i op t x y yt ho
    split at h <;> try cases h
    rename_i ti hti
    obtain ⟨i, d, z0, hti'⟩ := hT.get hti
    split at h
    · rename_i z1 hz1
      split at h <;> cases h
      rename_i hk
      obtain ⟨r, hr, hv⟩ := aifc_run (w := w) (ox := x) (y := y) (a := a) hti' hk (ht x) hz1
      exact ⟨r, by simp only [execOp, ho]; exact lift hr, hv⟩
    · obtain ⟨r, hr, hv⟩ := abin2_run (w := w) (ox := x) (oy := y) hti' (ht x) (ht y) h
      exact ⟨r, by simp only [execOp, ho]; exact lift hr, hv⟩
  · rename_i op t x ho
    obtain ⟨r, hr, hv⟩ := aun_run (P := P) (w := w) (ht x) h
    exact ⟨r, by simp only [execOp, ho]; exact lift hr, hv⟩
  · rename_i t x f ho
    obtain ⟨r, hr, hv⟩ := afieldAddr_run (w := w) hT (ht x) h
    exact ⟨r, by simp only [execOp, ho]; exact lift hr, hv⟩
  · rename_i t x f ho
    obtain ⟨r, hr, hv⟩ := afieldOf_run (w := w) hT (ht x) h
    exact ⟨r, by simp only [execOp, ho]; exact lift hr, hv⟩
  · rename_i t x y ho
    obtain ⟨r, hr, hv⟩ := aindexAddr_run (w := w) hT (ht x) (ht y) h
    exact ⟨r, by simp only [execOp, ho]; exact lift hr, hv⟩
  · rename_i t x y ho
    obtain ⟨r, hr, hv⟩ := aindex_run (w := w) hT (ht x) (ht y) h
    exact ⟨r, by simp only [execOp, ho]; exact lift hr, hv⟩
  · rename_i t x lo hi ho
    have hm : ∀ (y : Option Operand), (∀ q, y.map ρ = some q → ∃ v, y.map a.eval = some v ∧ VR g q v) ∧ (y.map ρ = none → y.map a.eval = none) := by
      intro y
      cases y with
      | none => simp
      | some y => simp; exact ht y
    obtain ⟨r, hr, hv⟩ := aslice_run (w := w) hT (ht x) (hm lo).1 (hm lo).2 (hm hi).1 (hm hi).2 h
    exact ⟨r, by simp only [execOp, ho]; exact lift hr, hv⟩
  · rename_i s d x ho
    obtain ⟨r, hr, hv⟩ := aconv_run (w := w) hT (ht x) h
    exact ⟨r, by simp only [execOp, ho]; exact lift hr, hv⟩
  · rename_i x i ho
    split at h <;> try cases h
    rename_i vs hvs
    have := ht x
    rw [hvs] at this
    simp only [VR] at this
    obtain ⟨us, hus, hr⟩ := this
    obtain ⟨r, hr1, hr2⟩ := hr.get h
    have hr1' : us[i]? = some r := by simpa using hr1
    exact ⟨r, by simp only [execOp, ho]; exact lift (by simp [Instr.extract, hus, hr1']), hr2⟩
  · rename_i f first caps ho; cases h
    refine ⟨.func f (first.map a.eval) (caps.map a.eval), by simp only [execOp, ho]; exact lift (by simp [Instr.makeFunc]), ?_⟩
    simp only [VR]
    exact ⟨_, _, rfl, by rw [Array.toList_map]; exact VRs.of ht _, by rw [Array.toList_map]; exact VRs.of ht _⟩
  · rename_i t parts ho
    obtain ⟨r, hr, hv⟩ := abuild_run (w := w) hT (vs := parts.map fun (i, x) => (i, a.eval x)) (by rw [Array.toList_map]; exact PRs.of ht _) h
    exact ⟨r, by simp only [execOp, ho]; exact lift hr, hv⟩
  · rename_i t x ho
    obtain ⟨r, hr, hv⟩ := aloadI_run hT hh (ht x) h
    exact ⟨r, by simp only [execOp, ho]; exact lift hr, hv⟩
  · rename_i x ho
    have hx := ht x
    split at h <;> cases h
    · rename_i hq
      rw [hq] at hx
      have hx' := hx
      simp only [VR] at hx
      obtain ⟨p, _, _, _, hp, _⟩ := hx
      rw [hp] at hx'
      exact ⟨_, by simp [execOp, ho, hp], hx'⟩
    · rename_i hq
      rw [hq] at hx
      have hx' := hx
      simp only [VR] at hx
      rw [hx] at hx'
      exact ⟨_, by simp [execOp, ho, hx], hx'⟩
  · rename_i t x ho
    split at h <;> try cases h
    rename_i ti hti
    obtain ⟨i, d, z0, hti'⟩ := hT.get hti
    split at h <;> cases h
    rename_i hni
    refine ⟨.iface t (a.eval x), ?_, by simp only [VR]; exact ⟨_, rfl, ht x⟩⟩
    have hd : ∀ ms, d ≠ .interface ms := by
      intro ms e
      have := hti'.kind; rw [e] at this; exact hni this.symm
    simp only [execOp, ho]
    refine lift ?_
    unfold Instr.makeInterface
    rw [Sem.run_bind, hti'.run_und]
    cases d <;> first | rfl | exact absurd rfl (hd _)
  · rename_i args tys ho
    split at h <;> try cases h
    rename_i x t hx hty
    have hx' : (args.map a.eval)[0]? = some (a.eval x) := by rw [Array.getElem?_map, hx]; rfl
    obtain ⟨r, hr, hv⟩ := alen_run (w := w) (ty := o.type) hT hty hx' (ht x) h
    exact ⟨r, by simp [execOp, ho, resolve, invoke, builtin, hr], hv⟩
  · rename_i args tys ho
    split at h <;> try cases h
    rename_i x y hxy
    have ea : args.map a.eval = #[a.eval x, a.eval y] := by
      apply Array.ext'; rw [Array.toList_map, hxy]; rfl
    have h1 := ht x; have h2 := ht y
    unfold amax at h
    split at h <;> try cases h
    rename_i k m k' n e1 e2
    split at h <;> cases h
    rename_i hk; subst hk
    rw [e1] at h1; rw [e2] at h2
    simp only [VR] at h1 h2
    refine ⟨.int k (if n > m then n else m), ?_, by simp [VR]⟩
    simp [execOp, ho, resolve, invoke, builtin, ea, h1, h2, Builtin.max_, Builtin.max2]
  · rename_i args tys ho
    split at h <;> try cases h
    rename_i x y hxy
    have ea : args.map a.eval = #[a.eval x, a.eval y] := by
      apply Array.ext'; rw [Array.toList_map, hxy]; rfl
    have h1 := ht x; have h2 := ht y
    unfold amin at h
    split at h <;> try cases h
    rename_i k m k' n e1 e2
    split at h <;> cases h
    rename_i hk; subst hk
    rw [e1] at h1; rw [e2] at h2
    simp only [VR] at h1 h2
    refine ⟨.int k (if n < m then n else m), ?_, by simp [VR]⟩
    simp [execOp, ho, resolve, invoke, builtin, ea, h1, h2, Builtin.min_, Builtin.min2]
  · rename_i x xt t ho
    split at h <;> try cases h
    rename_i ti hti
    obtain ⟨i, d, z0, hti'⟩ := hT.get hti
    obtain ⟨r, hr, hv⟩ := atas_run (w := w) (xt := xt) hti' (ht x) h
    exact ⟨r, by simp only [execOp, ho]; exact lift hr, hv⟩
  · cases h

end
end Go.Proofs.YtggcmnoacplbkaaDoor.AM
