/- The abstract machine, part 7: regions, in the order of the text and in any order. -/
import Derived.Test.YtggcmnoacplbkaaDoorAm6
import Derived.OrdersIn
namespace Go.Proofs.YtggcmnoacplbkaaDoor.AM
open Go
set_option linter.unusedVariables false
set_option linter.unusedSimpArgs false

/-- An operation, slimmed: 'pure': a call that always comes to one value. -/
structure AO where
  dst : Option Nat
  op : Op
  guard : Option (Option Nat × Bool)
  pure : Bool

structure St where
  tm : List AV
  h : Hp

/-- the slot that a guard asks (slot, wanted); 'none': there is none. -/
def slimGuard (ops : Array Oper) : Option (Nat × Bool) → Option (Option Nat × Bool)
  | some (j, want) => some ((ops[j]?).bind (·.dst), want)
  | none => none

def slimO (ops : Array Oper) (pu : Bool) (o : Oper) : AO := ⟨o.dst, o.op, slimGuard ops o.guard, pu⟩
def sl (ops : Array Oper) (pu : List Nat) (i : Nat) : AO :=
  match ops[i]? with
  | some o => slimO ops (pu.contains i) o
  | none => ⟨none, .ready 0, none, false⟩

def aRun (P : Program) (T : Tab) (o : AO) (K : St → Prop) (X : AV → Hp → Prop) (s : St) : Prop :=
  aRes P T o.pure o.op (ev s.tm) s.h (fun x h' => K ⟨put s.tm o.dst x, h'⟩) X

/-- is an operation wanted? -/
def gw (o : AO) (tm : List AV) : Option Bool :=
  match o.guard with
  | none => some true
  | some (some t, want) => match tm.getD t .any with
    | .val (.bool b) => some (decide (b = want))
    | .val _ => some false
    | _ => none
  | some (none, _) => none

def aOp (P : Program) (T : Tab) (o : AO) (K : St → Prop) (X : AV → Hp → Prop) (s : St) : Prop :=
  match gw o s.tm with
  | some true => aRun P T o K X s
  | some false => K ⟨put s.tm o.dst (.val undef), s.h⟩
  | none => False

def aOps (P : Program) (T : Tab) (K : St → Prop) (X : List AV → AV → Hp → Prop) : List AO → St → Prop
  | [], s => K s
  | o :: os, s => aOp P T o (aOps P T K X os) (X s.tm) s

/-- Deferred calls: the marks of loops over functions, that the call has made itself; behind them those that D tells of. -/
def Marks1 (D g : Gh) (l : List Deferred) : Prop := (∀ d ∈ l, ∃ b, d = { target := .collected b, args := #[] } ∧ g.fz b = some (.deferred (some [])) ∧ D.fz b = none) ∧ l.Nodup
def Marks (D g : Gh) (l : List Deferred) : Prop := ∃ l1, l = l1 ++ D.tl ∧ (D.nm = true → l1 = []) ∧ Marks1 D g l1
theorem Marks.nil (D g : Gh) (h : D.tl = [] := by rfl) : Marks D g [] := ⟨[], by simp [h], fun _ => rfl, fun _ h => (by cases h), List.nodup_nil⟩
theorem Marks.tail (D g : Gh) : Marks D g D.tl := ⟨[], rfl, fun _ => rfl, fun _ h => (by cases h), List.nodup_nil⟩
theorem Marks1.mono {D g g' : Gh} {l : List Deferred} (h : Marks1 D g l) (k : g.le g') : Marks1 D g' l :=
  ⟨fun d hd => let ⟨b, h1, h2, h3⟩ := h.1 d hd; ⟨b, h1, k.fz _ _ h2, h3⟩, h.2⟩
theorem Marks.mono {D g g' : Gh} {l : List Deferred} (h : Marks D g l) (k : g.le g') : Marks D g' l :=
  let ⟨l1, e, n, m⟩ := h; ⟨l1, e, n, m.mono k⟩
/-- one more mark: a block that was not told of -/
theorem Marks.push {D g g' : Gh} {l : List Deferred} (h : Marks D g l) (k : g.le g') {b : Nat} (hb : g.fz b = none) (h1 : g'.fz b = some (.deferred (some []))) (h2 : D.fz b = none) (hn : D.nm = false) : Marks D g' ([{ target := .collected b, args := #[] }] ++ l) := by
  obtain ⟨l1, rfl, _, m⟩ := h
  refine ⟨{ target := .collected b, args := #[] } :: l1, rfl, fun e => (by rw [hn] at e; cases e), fun d hd => ?_, ?_⟩
  · cases hd with
    | head => exact ⟨b, rfl, h1, h2⟩
    | tail _ hd => exact (m.mono k).1 d hd
  · refine List.nodup_cons.2 ⟨fun hm => ?_, m.2⟩
    obtain ⟨b', q1, q2, _⟩ := m.1 _ hm
    cases q1
    rw [hb] at q2; cases q2
theorem TR.cmono {g g' : Gh} {tm : List AV} {tmps : Array Value} (h : TR g tm tmps) (k : g.cle g') : TR g' tm tmps :=
  ⟨h.len, fun i x hx => let ⟨v, hv, hr⟩ := h.at_ i x hx; ⟨v, hv, hr.cmono k _ _⟩⟩
def setAll (tm : List AV) (ps : List Nat) (xs : List AV) : List AV := (ps.zip xs).foldl (fun t (p : Nat × AV) => t.set p.1 p.2) tm
theorem TR.setAll {g : Gh} {tm : List AV} {tmps : Array Value} (h : TR g tm tmps) {ps : Array Nat} {xs : List AV} {vs : Array Value} (hv : VRs g xs vs.toList) (hl : vs.size = ps.size) :
    TR g (setAll tm ps.toList xs) ((ps.zip vs).foldl (fun t (p : Nat × Value) => t.setIfInBounds p.1 p.2) tmps) := by
  rw [← Array.foldl_toList, Array.toList_zip]
  unfold AM.setAll
  generalize vs.toList = vl at hv
  generalize ps.toList = pl
  induction pl generalizing tm tmps xs vl with
  | nil => simpa using h
  | cons p pl ih =>
    cases xs with
    | nil => cases vl with
      | nil => simpa using h
      | cons => simp [VRs] at hv
    | cons x xs => cases vl with
      | nil => simp [VRs] at hv
      | cons v vl =>
        simp only [List.zip_cons_cons, List.foldl_cons]
        refine ih ?_ _ hv.2
        have := TR.put (a := { tmps, defers := [] }) h (some p) hv.1
        exact this
/-- An abstract state describes the memory, a frame's slots and its deferred calls. -/
structure Rel (D : Gh) (g : Gh) (s : St) (a : Act) (w : World) : Prop where
  tm : TR g s.tm a.tmps
  hr : HR g s.h w
  df : Marks D g a.defers

section
variable {P : Program} {T : Tab} {D : Gh} {r : Option Nat}

theorem aOp_run (hT : TabOK P T) {ops : Array Oper} {pu : List Nat} {i : Nat} {o : Oper} (hi : ops[i]? = some o) {K : St → Prop} {X : AV → Hp → Prop} {s : St} (h : aOp P T (sl ops pu i) K X s) {g : Gh} {a : Act} {w : World} (hr : Rel D g s a w)
    {K' : Act → World → Prop} {Q : Exit → Act → World → Prop} (hk : ∀ g' s' a' w', g.le g' → Rel D g' s' a' w' → K s' → K' a' w')
    (hX : ∀ g' x v h' w', g.le g' → VR g' x v → HR g' h' w' → X x h' → Q (.panic [{ v, recovered := false }]) a w') : wpOpIn (Fr r) 0 P ops Q i K' a w := by
  have hput : ∀ v, (a.put o.dst v).defers = a.defers := by intro v; cases o.dst <;> rfl
  have run : aRun P T (sl ops pu i) K X s → o.wpIn (Fr r) 0 P a w K' Q := by
    intro h
    simp only [sl, hi, slimO, aRun] at h
    refine aRes_in hT h (fun x => hr.tm.ev x) hr.hr ?_ hX
    intro g' x v h' w' b1 b2 b3 b4
    exact hk g' _ _ _ b1 ⟨(hr.tm.mono b1).put o.dst b2, b3, by rw [hput v]; exact hr.df.mono b1⟩ b4
  unfold wpOpIn
  simp only [hi]
  have hg : (sl ops pu i).guard = slimGuard ops o.guard := by simp [sl, hi, slimO]
  have hd : (sl ops pu i).dst = o.dst := by simp [sl, hi, slimO]
  unfold aOp at h
  have hw : ∀ b, gw (sl ops pu i) s.tm = some b → Region.wanted o (yielded ops a.tmps) = b := by
    intro b hb
    unfold gw at hb
    rw [hg] at hb
    cases hog : o.guard with
    | none => rw [hog] at hb; cases hb; simp [Region.wanted, hog]
    | some gq =>
      obtain ⟨j, want⟩ := gq
      rw [hog] at hb
      simp only [slimGuard] at hb
      cases hj : (ops[j]?).bind (·.dst) with
      | none => rw [hj] at hb; cases hb
      | some t =>
        rw [hj] at hb
        simp only at hb
        split at hb
        · cases hb
          rename_i b hq
          have hx := hr.tm.ev (.tmp t)
          simp only [ev, hq, VR, Act.eval] at hx
          have hy : yielded ops a.tmps j = some b := by
            unfold yielded
            rw [hj]
            simp only [Option.bind_some]
            cases hb2 : a.tmps[t]? with
            | none => simp [hb2, undef] at hx
            | some v2 => simp [hb2] at hx; subst hx; rfl
          simp [Region.wanted, hog, hy]
          cases b <;> cases want <;> rfl
        · cases hb
          rename_i v hnb hq
          have hx := hr.tm.ev (.tmp t)
          simp only [ev, hq, VR, Act.eval] at hx
          have hy : yielded ops a.tmps j = none := by
            unfold yielded
            rw [hj]
            simp only [Option.bind_some]
            cases hb2 : a.tmps[t]? with
            | none => rfl
            | some v2 =>
              simp [hb2] at hx; subst hx
              split
              · rename_i b e; cases e; exact absurd rfl (hnb b)
              · rfl
          simp [Region.wanted, hog, hy]
        · cases hb
  split at h
  · rename_i e
    simp only [hw _ e, if_true]
    exact run h
  · rename_i e
    simp only [hw _ e, Bool.false_eq_true, if_false]
    rw [hd] at h
    exact ⟨fun _ _ => trivial, hk g ⟨put s.tm o.dst (.val undef), s.h⟩ _ _ (Gh.le.refl g) ⟨hr.tm.put o.dst (x := .val undef) (by simp [VR]), hr.hr, by rw [hput undef]; exact hr.df⟩ h⟩
  · exact h.elim

/-- a region in the order of the text -/
theorem aOps_run (hT : TabOK P T) {ops : Array Oper} {pu : List Nat} {K : St → Prop} {X : List AV → AV → Hp → Prop} {Q : Exit → Act → World → Prop} {g0 : Gh}
    (hn : ∀ g s a w, g0.le g → Rel D g s a w → K s → Q .normal a w) (hX : ∀ g x v tm h' a w, g0.le g → TR g tm a.tmps → VR g x v → HR g h' w → Marks D g a.defers → X tm x h' → Q (.panic [{ v, recovered := false }]) a w) :
    ∀ (l : List Nat), (∀ i ∈ l, i < ops.size) → ∀ (s : St), aOps P T K X (l.map (sl ops pu)) s → ∀ (g : Gh) (a : Act) (w : World), g0.le g → Rel D g s a w → wpOpsIn (Fr r) 0 P ops Q l a w
  | [], _, s, h, g, a, w, hg, hr => by simpa [wpOpsIn] using hn g s a w hg hr h
  | i :: l, hl, s, h, g, a, w, hg, hr => by
    rw [wpOpsIn_cons]
    obtain ⟨o, ho⟩ : ∃ o, ops[i]? = some o := ⟨_, Array.getElem?_eq_getElem (hl i (by simp))⟩
    simp only [List.map_cons, aOps] at h
    exact aOp_run hT ho h hr (fun g' s' a' w' b1 b2 b3 => aOps_run hT hn hX l (fun j hj => hl j (by simp [hj])) s' b3 g' a' w' (hg.trans b1) b2)
      (fun g' x v h' w' b1 b2 b3 b4 => hX g' x v s.tm h' a w' (hg.trans b1) (hr.tm.mono b1) b2 b3 (hr.df.mono b1) b4)

/-! ### regions whose order is drawn -/
def aAny (P : Program) (T : Tab) (ops : Array Oper) (pu : List Nat) (K : St → Prop) (X : AV → Hp → Prop) : Nat → Array Bool → St → Prop
  | 0, listed, s => Region.ready .any ops listed = [] ∧ K s
  | fuel + 1, listed, s => (Region.ready .any ops listed = [] → K s) ∧ ∀ i ∈ Region.ready .any ops listed, aOp P T (sl ops pu i) (aAny P T ops pu K X fuel (listed.setIfInBounds i true)) X s

theorem aAny_run (hT : TabOK P T) {ops : Array Oper} {pu : List Nat} {K : St → Prop} {X : AV → Hp → Prop} {Q : Exit → Act → World → Prop} {g0 : Gh}
    (hn : ∀ g s a w, g0.le g → Rel D g s a w → K s → Q .normal a w) (hX : ∀ g x v h' a w, g0.le g → VR g x v → HR g h' w → Marks D g a.defers → X x h' → Q (.panic [{ v, recovered := false }]) a w) :
    ∀ (fuel : Nat) (listed : Array Bool) (s : St), aAny P T ops pu K X fuel listed s → ∀ (g : Gh) (a : Act) (w : World), g0.le g → Rel D g s a w → wpAnyIn (Fr r) 0 P .any ops Q fuel listed a w
  | 0, listed, s, h, g, a, w, hg, hr => ⟨h.1, hn g s a w hg hr h.2⟩
  | fuel + 1, listed, s, h, g, a, w, hg, hr => by
    refine ⟨fun e => hn g s a w hg hr (h.1 e), fun i hi => ?_⟩
    obtain ⟨_, o, ho, _⟩ := mem_ready.1 hi
    exact aOp_run hT ho (h.2 i hi) hr (fun g' s' a' w' b1 b2 b3 => aAny_run hT hn hX fuel _ s' b3 g' a' w' (hg.trans b1) b2)
      (fun g' x v h' w' b1 b2 b3 b4 => hX g' x v h' a w' (hg.trans b1) b2 b3 (hr.df.mono b1) b4)

/-- An order of evaluation, or several that must all be gone. -/
inductive Plan where
  | done
  | op (i : Nat) (p : Plan)
  | both (p q : Plan)

def Plan.heads : Plan → List Nat
  | .done => []
  | .op i _ => [i]
  | .both p q => p.heads ++ q.heads

def nilConst : Operand → Bool
  | .const (.slice none 0 0) => true
  | _ => false
/-- operations that ask nothing of the memory -/
def calmOp : Op → Bool
  | .binOp _ _ _ y _ => !nilConst y
  | .move _ | .assign _ | .pick .. | .unOp .. | .fieldAddr .. | .field .. | .indexAddr .. | .index .. | .slice _ _ _ _ none | .extract .. | .makeFunc .. | .build .. | .nilCheck _ | .makeInterface .. => true
  | .call ⟨.builtin .len, _, _⟩ | .call ⟨.builtin .max, _, _⟩ | .call ⟨.builtin .min, _, _⟩ => true
  | _ => false
def isLoad : Op → Bool
  | .load .. => true
  | _ => false
def isCall : Op → Bool
  | .call ⟨.value _, _, _⟩ => true
  | _ => false
/-- operations behind which all that was there is as it was -/
def monoOp : Op → Bool
  | .load .. | .alloc _ | .box .. | .buildSlice .. | .makeSlice .. | .binOp .. | .convert .. => true
  | op => calmOp op

def waits (ops : Array Oper) (listed : Array Bool) (i : Nat) (acc : List Nat) (n : Nat) : Bool :=
  (!listed.getD n true) && (n != i) && (match ops[n]? with | some o => o.after.any (fun e => Region.binds .any e && (e.on == i || acc.contains e.on)) | none => false)
/-- what is left that waits for operation i -/
def descs (ops : Array Oper) (listed : Array Bool) (i : Nat) : Nat → List Nat
  | 0 => []
  | n + 1 => if waits ops listed i (descs ops listed i n) n then n :: descs ops listed i n else descs ops listed i n
/-- may operation i be taken ahead of all that is left? -/
def firstOK (ops : Array Oper) (pu : List Nat) (listed : Array Bool) (i : Nat) : Bool :=
  match ops[i]? with
  | none => false
  | some oi => Region.free .any ops listed i &&
    (calmOp oi.op || ((isCall oi.op || isLoad oi.op) && pu.contains i) ||
      (isLoad oi.op && (List.range ops.size).all fun j => j == i || listed.getD j true || (descs ops listed i ops.size).contains j || match ops[j]? with
        | some oj => oj.after.any (fun e => Region.binds .any e && e.on == i) || monoOp oj.op || (isCall oj.op && pu.contains j)
        | none => true))

mutual
def planOK (ops : Array Oper) (pu : List Nat) (listed : Array Bool) : Plan → Bool
  | .done => (Region.ready .any ops listed).isEmpty
  | .op i p => (Region.ready .any ops listed == [i] || ((Region.ready .any ops listed).contains i && firstOK ops pu listed i)) && planOK ops pu (listed.setIfInBounds i true) p
  | .both p q => !(Region.ready .any ops listed).isEmpty && (Region.ready .any ops listed).all (fun i => p.heads.contains i || q.heads.contains i) && altOK ops pu listed p && altOK ops pu listed q
def altOK (ops : Array Oper) (pu : List Nat) (listed : Array Bool) : Plan → Bool
  | .done => true
  | .op i p => planOK ops pu (listed.setIfInBounds i true) p
  | .both p q => altOK ops pu listed p && altOK ops pu listed q
end

def aPlan (P : Program) (T : Tab) (f : Nat → AO) (K : St → Prop) (X : AV → Hp → Prop) : Plan → St → Prop
  | .done, s => K s
  | .op i p, s => aOp P T (f i) (aPlan P T f K X p) X s
  | .both p q, s => aPlan P T f K X p s ∧ aPlan P T f K X q s

end
end Go.Proofs.YtggcmnoacplbkaaDoor.AM
