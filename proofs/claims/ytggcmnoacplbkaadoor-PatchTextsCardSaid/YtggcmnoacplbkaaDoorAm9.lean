/- The abstract machine, part 9: code; functions; what may be told otherwise without a step. -/
import Derived.Test.YtggcmnoacplbkaaDoorAm8
import Derived.Scope
import Derived.Sort.LoopGhostIn
namespace Go.Proofs.YtggcmnoacplbkaaDoor.AM
open Go
set_option linter.unusedVariables false
set_option linter.unusedSimpArgs false

inductive AC where
  | skip
  | reg (os : List AO)
  | draw (os : List AO) (p : Plan)
  | seq (a b : AC)
  | cond (c : Operand) (a b : AC)
  | block (id : Nat) (b : AC)
  | loop (b : AC)
  | exit (id : Nat)
  | ret
  | ghost
  | scope (b : AC)
  | range (f : Operand) (ps : List Nat) (as_ bd : AC)

/-- code of a round of a loop over a function -/
def simpleC : Code → Bool
  | .seq a b => simpleC a && simpleC b
  | .cond _ a b => simpleC a && simpleC b
  | .block _ b | .loop b => simpleC b
  | .rangeFunc .. | .scope _ | .goto _ | .refuse _ => false
  | _ => true
def dfltO : AO := ⟨none, .ready 0, none, false⟩

/-- What is told of a region: calls that come to one value; a plan of orders; whether something may be told otherwise ahead of it. -/
structure Ann where
  pure : List Nat := []
  plan : Plan := .done
  ghost : Bool := false
  post : Bool := false

def slimP (an : Ann) (c : AC) : AC := if an.post then .seq c .ghost else c
def slimR (an : Ann) (c : AC) : AC := if an.ghost then .seq .ghost (slimP an c) else slimP an c

def slim (ann : Nat → Ann) : Code → Option AC
  | .skip => some .skip
  | .region id ops draw =>
    if draw then
      if planOK ops (ann id).pure (Array.replicate ops.size false) (ann id).plan && decide ((ann id).plan.depth ≤ ops.size) then
        some (slimR (ann id) (.draw ((List.range ops.size).map (sl ops (ann id).pure)) (ann id).plan))
      else none
    else some (slimR (ann id) (.reg ((List.range ops.size).map (sl ops (ann id).pure))))
  | .seq a b => match slim ann a, slim ann b with
    | some x, some y => some (.seq x y)
    | _, _ => none
  | .cond c a b => match slim ann a, slim ann b with
    | some x, some y => some (.cond c x y)
    | _, _ => none
  | .block id b => match slim ann b with
    | some x => some (.block id x)
    | none => none
  | .loop b => match slim ann b with
    | some x => some (.loop x)
    | none => none
  | .exit id => some (.exit id)
  | .ret => some .ret
  | .label _ => some .skip
  | .scope b => match slim ann b with
    | some x => some (.scope x)
    | none => none
  | .rangeFunc f ps x y =>
    if simpleC x && simpleC y then match slim ann x, slim ann y with
      | some a, some b => some (.range f ps.toList a b)
      | _, _ => none
    else none
  | _ => none

inductive AX where
  | norm
  | exit (id : Nat)
  | ret
  | pan (x : AV)

/-- What may be told otherwise: wherever s describes a frame and a world, s' does too. -/
def Retell (s s' : St) : Prop := ∀ D g a w, Rel D g s a w → ∃ g', g.le g' ∧ Rel D g' s' a w

def athen (next : St → Prop) (Q : AX → St → Prop) : AX → St → Prop
  | .norm, s => next s
  | e, s => Q e s
def ablock (id : Nat) (Q : AX → St → Prop) : AX → St → Prop
  | .exit n, s => if n = id then Q .norm s else Q (.exit n) s
  | e, s => Q e s

/-- what a loop over a function asks at a round's end; 'o': its record -/
def arnd (l : Nat) (o : LoopState → Option Code → Obj) (K : Option Code → Hp → Prop) : AX → St → Prop
  | .norm, s => s.h.r l = some (o .busy none) ∧ K none (s.h.updR l (o .ready none))
  | .ret, s => s.h.r l = some (o .busy none) ∧ K (some .ret) (s.h.updR l (o .done (some .ret)))
  | .exit id, s => s.h.r l = some (o .busy none) ∧ K (some (.exit id)) (s.h.updR l (o .done (some (.exit id))))
  | .pan _, _ => False
/-- and behind it -/
def apend (Q : AX → St → Prop) (s : St) : Option Code → Prop
  | none => Q .norm s
  | some .ret => Q .ret s
  | some (.exit id) => Q (.exit id) s
  | _ => False
def aready (l : Nat) (o : LoopState → Option Code → Obj) (bd : St → Prop) (s : St) : Prop := s.h.r l = some (o .ready none) ∧ bd ⟨s.tm, s.h.updR l (o .busy none)⟩

def awp (P : Program) (T : Tab) : AC → (AX → St → Prop) → St → Prop
  | .skip, Q, s => Q .norm s
  | .reg os, Q, s => aOps P T (Q .norm) (fun tm x h => Q (.pan x) ⟨tm, h⟩) os s
  | .draw os p, Q, s => aPlan P T (fun i => os.getD i dfltO) (Q .norm) (fun x h => Q (.pan x) ⟨[], h⟩) p s
  | .seq a b, Q, s => awp P T a (athen (awp P T b Q) Q) s
  | .cond c a b, Q, s => match ev s.tm c with
    | .val (.bool t) => if t = true then awp P T a Q s else awp P T b Q s
    | _ => False
  | .block id b, Q, s => awp P T b (ablock id Q) s
  | .loop b, Q, s => ∃ I : Nat → St → Prop, (∃ n s0, Retell s s0 ∧ I n s0) ∧ ∀ n s', I n s' → awp P T b (athen (fun s'' => ∃ m s0, m < n ∧ Retell s'' s0 ∧ I m s0) Q) s'
  | .exit id, Q, s => Q (.exit id) s
  | .ret, Q, s => Q .ret s
  | .ghost, Q, s => ∃ s', Retell s s' ∧ Q .norm s'
  | .scope b, Q, s => awp P T b Q s
  | .range f ps as_ bd, Q, s => match ev s.tm f with
    | .fn (.func n) [] caps => ∀ (l : Nat) (gb : Gh) (o : LoopState → Option Code → Obj), (∀ st pe, notCells (o st pe) = true) → s.h.r l = none →
      (∀ (args : List AV) (h2 : Hp) (K : Option Code → Hp → Prop), args.length = ps.length → h2.r l = some (o .ready none) →
        awp P T as_ (athen (aready l o (awp P T bd (arnd l o K))) (fun _ _ => False)) ⟨setAll s.tm ps args, h2⟩ →
        AYield P gb l args h2 fun x h' => ∃ pe : Option Code, x = abool pe.isNone ∧ K pe h') →
      ACalls P n (.yld l gb :: caps) (s.h.updR l (o .ready none)) fun e h' => (∃ x, e = .ret x) ∧ ∃ pe st, h'.r l = some (o st pe) ∧ st ≠ .busy ∧ apend Q ⟨s.tm, h'.delR l⟩ pe
    | _ => False

/-- The post of the abstract machine, as one of the model's. -/
def SQ (D : Gh) (Q : AX → St → Prop) (e : Exit) (a : Act) (w : World) : Prop :=
  ∃ g s ax, D.le g ∧ Q ax s ∧ match ax, e with
    | .norm, .normal => Rel D g s a w
    | .exit n, .exit m => n = m ∧ Rel D g s a w
    | .ret, .ret => Rel D g s a w
    | .pan x, .panic chain => (s.tm = [] ∨ TR g s.tm a.tmps) ∧ HR g s.h w ∧ Marks D g a.defers ∧ ∃ v, chain = [{ v, recovered := false }] ∧ VR g x v
    | _, _ => False

section
variable {P : Program} {T : Tab} {D : Gh} {r : Option Nat}

theorem Rel.tell {D : Gh} {g0 g : Gh} {s : St} {a : Act} {w : World} (hg : g0.le g) (hr : Rel D g s a w) {Q : AX → St → Prop} (h : awp P T .ghost Q s) : ∃ g' s', g0.le g' ∧ Rel D g' s' a w ∧ Q .norm s' := by
  obtain ⟨s', h1, h2⟩ := h
  obtain ⟨g', a1, a2⟩ := h1 D g a w hr
  exact ⟨g', s', hg.trans a1, a2, h2⟩

theorem getD_sl (ops : Array Oper) (pu : List Nat) (i : Nat) : ((List.range ops.size).map (sl ops pu)).getD i dfltO = sl ops pu i := by
  rw [List.getD, List.getElem?_map]
  by_cases h : i < ops.size
  · rw [List.getElem?_range h]; rfl
  · rw [List.getElem?_eq_none (by simpa using h)]
    simp [sl, Array.getElem?_eq_none (Nat.le_of_not_lt h), dfltO]

theorem awp_run (hT : TabOK P T) (hmix : P.follows .mixedOrders = true) {ann : Nat → Ann} : ∀ (c : Code) (ac : AC), slim ann c = some ac → ∀ (r : Option Nat) (D : Gh), ((r = none ∧ D.nm = false) ∨ simpleC c = true) → ∀ (Q : AX → St → Prop) (s : St), awp P T ac Q s →
    ∀ (g : Gh) (a : Act) (w : World), D.le g → Rel D g s a w → c.wpIn (Fr r) 0 P (SQ D Q) a w
  | .skip, ac, hs, r, D, hsi, Q, s, h, g, a, w, hg, hr => by
    cases hs
    exact wpIn_skip ⟨g, s, .norm, hg, h, hr⟩
  | .region id ops draw, ac, hs, r, D, hsi, Q, s, h, g, a, w, hg, hr => by
    have core : ∀ (c' : AC), (c' = .reg ((List.range ops.size).map (sl ops (ann id).pure)) ∧ draw = false) ∨ (c' = .draw ((List.range ops.size).map (sl ops (ann id).pure)) (ann id).plan ∧ draw = true ∧
        planOK ops (ann id).pure (Array.replicate ops.size false) (ann id).plan = true ∧ (ann id).plan.depth ≤ ops.size) →
        ∀ (Q : AX → St → Prop) (s : St), awp P T c' Q s → ∀ g, D.le g → Rel D g s a w → (Code.region id ops draw).wpIn (Fr r) 0 P (SQ D Q) a w := by
      intro c' hc' Q s h g hg hr
      have hn : ∀ g s a w, D.le g → Rel D g s a w → Q .norm s → SQ D Q .normal a w := fun g s a w hg hr hq => ⟨g, s, .norm, hg, hq, hr⟩
      have hX : ∀ g x v h' a w, D.le g → VR g x v → HR g h' w → Marks D g a.defers → Q (.pan x) ⟨[], h'⟩ → SQ D Q (.panic [{ v, recovered := false }]) a w :=
        fun g x v h' a w hg hv hh hd hq => ⟨g, ⟨[], h'⟩, .pan x, hg, hq, .inl rfl, hh, hd, v, rfl, hv⟩
      have hX' : ∀ g x v tm h' a w, D.le g → TR g tm a.tmps → VR g x v → HR g h' w → Marks D g a.defers → Q (.pan x) ⟨tm, h'⟩ → SQ D Q (.panic [{ v, recovered := false }]) a w :=
        fun g x v tm h' a w hg ht hv hh hd hq => ⟨g, ⟨tm, h'⟩, .pan x, hg, hq, .inr ht, hh, hd, v, rfl, hv⟩
      rcases hc' with ⟨rfl, rfl⟩ | ⟨rfl, rfl, hp1, hp2⟩
      · exact wpIn_region (aOps_run hT hn hX' _ (fun i hi => List.mem_range.1 hi) s h g a w hg hr)
      · simp only [awp] at h
        have e : (fun i => ((List.range ops.size).map (sl ops (ann id).pure)).getD i dfltO) = sl ops (ann id).pure := funext (getD_sl ops _)
        rw [e] at h
        have hany := aAny_le (plan_any _ _ _ hp1 h) hp2
        exact wpIn_region_any hmix (aAny_run hT hn hX _ _ s hany g a _ hg ⟨hr.tm, hr.hr.drew, hr.df⟩)
    have core1 : ∀ (c' : AC), (c' = .reg ((List.range ops.size).map (sl ops (ann id).pure)) ∧ draw = false) ∨ (c' = .draw ((List.range ops.size).map (sl ops (ann id).pure)) (ann id).plan ∧ draw = true ∧
        planOK ops (ann id).pure (Array.replicate ops.size false) (ann id).plan = true ∧ (ann id).plan.depth ≤ ops.size) →
        ∀ (s : St), awp P T (slimP (ann id) c') Q s → ∀ g, D.le g → Rel D g s a w → (Code.region id ops draw).wpIn (Fr r) 0 P (SQ D Q) a w := by
      intro c' hc' s h g hg hr
      unfold slimP at h
      split at h
      · simp only [awp] at h
        refine wpIn_mono (core c' hc' _ s h g hg hr) ?_
        rintro e a' w' ⟨g', s', ex, b1, b2, b3⟩
        cases ex with
        | norm =>
          cases e <;> try exact b3.elim
          obtain ⟨s2, h1, h2⟩ := b2
          obtain ⟨g2, a1, a2⟩ := h1 D g' a' w' b3
          exact ⟨g2, s2, .norm, b1.trans a1, h2, a2⟩
        | exit n => cases e <;> first | exact b3.elim | exact ⟨g', s', .exit n, b1, b2, b3⟩
        | ret => cases e <;> first | exact b3.elim | exact ⟨g', s', .ret, b1, b2, b3⟩
        | pan x => cases e <;> first | exact b3.elim | exact ⟨g', s', .pan x, b1, b2, b3⟩
      · exact core c' hc' Q s h g hg hr
    have core2 : ∀ (c' : AC), (c' = .reg ((List.range ops.size).map (sl ops (ann id).pure)) ∧ draw = false) ∨ (c' = .draw ((List.range ops.size).map (sl ops (ann id).pure)) (ann id).plan ∧ draw = true ∧
        planOK ops (ann id).pure (Array.replicate ops.size false) (ann id).plan = true ∧ (ann id).plan.depth ≤ ops.size) →
        awp P T (slimR (ann id) c') Q s → (Code.region id ops draw).wpIn (Fr r) 0 P (SQ D Q) a w := by
      intro c' hc' h
      unfold slimR at h
      split at h
      · simp only [awp] at h
        obtain ⟨s', h1, h2⟩ := h
        obtain ⟨g', a1, a2⟩ := h1 D g a w hr
        exact core1 c' hc' s' h2 g' (hg.trans a1) a2
      · exact core1 c' hc' s h g hg hr
    simp only [slim] at hs
    split at hs
    · rename_i hd
      split at hs <;> cases hs
      rename_i hp
      simp only [Bool.and_eq_true, decide_eq_true_eq] at hp
      exact core2 _ (.inr ⟨rfl, hd, hp.1, hp.2⟩) h
    · rename_i hd
      cases hs
      exact core2 _ (.inl ⟨rfl, by simpa using hd⟩) h
  | .seq x y, ac, hs, r, D, hsi, Q, s, h, g, a, w, hg, hr => by
    simp only [slim] at hs
    split at hs <;> cases hs
    rename_i ax ay hx hy
    simp only [awp] at h
    refine wpIn_seq (wpIn_mono (awp_run hT hmix x ax hx r D (hsi.imp id fun e => (by simp only [simpleC, Bool.and_eq_true] at e; exact e.1)) _ s h g a w hg hr) ?_)
    rintro e a' w' ⟨g', s', ex, b1, b2, b3⟩
    cases ex with
    | norm =>
      cases e <;> try exact b3.elim
      exact awp_run hT hmix y ay hy r D (hsi.imp id fun e => (by simp only [simpleC, Bool.and_eq_true] at e; exact e.2)) Q s' b2 g' a' w' b1 b3
    | exit n => cases e <;> first | exact b3.elim | exact ⟨g', s', .exit n, b1, b2, b3⟩
    | ret => cases e <;> first | exact b3.elim | exact ⟨g', s', .ret, b1, b2, b3⟩
    | pan x => cases e <;> first | exact b3.elim | exact ⟨g', s', .pan x, b1, b2, b3⟩
  | .cond c x y, ac, hs, r, D, hsi, Q, s, h, g, a, w, hg, hr => by
    simp only [slim] at hs
    split at hs <;> cases hs
    rename_i ax ay hx hy
    simp only [awp] at h
    split at h <;> try exact h.elim
    rename_i t ht
    have hc := hr.tm.ev c
    rw [ht] at hc
    simp only [VR] at hc
    split at h
    · rename_i e; subst e
      exact wpIn_cond_true hc (awp_run hT hmix x ax hx r D (hsi.imp id fun e => (by simp only [simpleC, Bool.and_eq_true] at e; exact e.1)) Q s h g a w hg hr)
    · rename_i e
      have : t = false := by simpa using e
      subst this
      exact wpIn_cond_false hc (awp_run hT hmix y ay hy r D (hsi.imp id fun e => (by simp only [simpleC, Bool.and_eq_true] at e; exact e.2)) Q s h g a w hg hr)
  | .block id x, ac, hs, r, D, hsi, Q, s, h, g, a, w, hg, hr => by
    simp only [slim] at hs
    split at hs <;> cases hs
    rename_i ax hx
    simp only [awp] at h
    refine wpIn_block (wpIn_mono (awp_run hT hmix x ax hx r D (hsi.imp (fun e => e) fun e => (by simpa only [simpleC] using e)) _ s h g a w hg hr) ?_)
    rintro e a' w' ⟨g', s', ex, b1, b2, b3⟩
    cases ex with
    | norm => cases e <;> first | exact b3.elim | exact ⟨g', s', .norm, b1, b2, b3⟩
    | exit n =>
      cases e <;> try exact b3.elim
      obtain ⟨rfl, b3⟩ := b3
      simp only [ablock] at b2
      simp only [Exit.inBlock]
      split at b2
      · rename_i e1; rw [if_pos e1]; exact ⟨g', s', .norm, b1, b2, b3⟩
      · rename_i e1; rw [if_neg e1]; exact ⟨g', s', .exit n, b1, b2, rfl, b3⟩
    | ret => cases e <;> first | exact b3.elim | exact ⟨g', s', .ret, b1, b2, b3⟩
    | pan x => cases e <;> first | exact b3.elim | exact ⟨g', s', .pan x, b1, b2, b3⟩
  | .loop x, ac, hs, r, D, hsi, Q, s, h, g, a, w, hg, hr => by
    simp only [slim] at hs
    split at hs <;> cases hs
    rename_i ax hx
    simp only [awp] at h
    obtain ⟨I, ⟨n0, s0, hre, h0⟩, hround⟩ := h
    obtain ⟨g1, d1, d2⟩ := hre D g a w hr
    refine wpIn_loop_ghost (fun n a w => ∃ g s, D.le g ∧ Rel D g s a w ∧ I n s) n0 ⟨g1, s0, hg.trans d1, d2, h0⟩ ?_
    rintro n a' w' ⟨g', s', b1, b2, b3⟩
    refine wpIn_mono (awp_run hT hmix x ax hx r D (hsi.imp (fun e => e) fun e => (by simpa only [simpleC] using e)) _ s' (hround n s' b3) g' a' w' b1 b2) ?_
    rintro e a2 w2 ⟨g2, s2, ex, c1, c2, c3⟩
    cases ex with
    | norm =>
      cases e <;> try exact c3.elim
      obtain ⟨m, s3, hm, hre2, hI⟩ := c2
      obtain ⟨g3, e1, e2⟩ := hre2 D g2 a2 w2 c3
      exact ⟨m, hm, g3, s3, c1.trans e1, e2, hI⟩
    | exit n => cases e <;> first | exact c3.elim | exact ⟨g2, s2, .exit n, c1, c2, c3⟩
    | ret => cases e <;> first | exact c3.elim | exact ⟨g2, s2, .ret, c1, c2, c3⟩
    | pan x => cases e <;> first | exact c3.elim | exact ⟨g2, s2, .pan x, c1, c2, c3⟩
  | .exit id, ac, hs, r, D, hsi, Q, s, h, g, a, w, hg, hr => by
    cases hs
    exact wpIn_exit ⟨g, s, .exit id, hg, h, rfl, hr⟩
  | .ret, ac, hs, r, D, hsi, Q, s, h, g, a, w, hg, hr => by
    cases hs
    exact wpIn_ret ⟨g, s, .ret, hg, h, hr⟩
  | .rangeFunc f ps x y, ac, hs, r, D, hsi, Q, s, h, g, a, w, hg, hr => by
    obtain ⟨hr0, hnm⟩ : r = none ∧ D.nm = false := hsi.resolve_right (by simp [simpleC])
    subst hr0
    simp only [slim] at hs
    split at hs
    rotate_left
    · cases hs
    rename_i hsimp
    split at hs <;> cases hs
    rename_i ax ay hx hy
    simp only [Bool.and_eq_true] at hsimp
    simp only [awp] at h
    split at h <;> try exact h.elim
    rename_i n caps hf
    have hfv := hr.tm.ev f
    rw [hf] at hfv
    simp only [VR] at hfv
    obtain ⟨fs, cs, e1, e2, e3⟩ := hfv
    have efs : fs = #[] := by
      apply Array.ext'
      cases h1 : fs.toList with
      | nil => rfl
      | cons => rw [h1] at e2; simp [VRs] at e2
    subst efs
    refine wpIn_rangeFunc ?_
    intro fn hfn
    obtain ⟨rec, hrec⟩ : ∃ rec : LoopState → Option Code → Loop, rec = fun st pe => { state := st, pending := pe, fn, tmps := a.tmps, params := ps, assign := x, body := y, defers := w.heap.size } := ⟨_, rfl⟩
    obtain ⟨hle1, hB⟩ := hr.hr.allocFz (o := .deferred (some [])) rfl
    have f2 := hr.hr.fresh.2.1
    obtain ⟨g1, hg1⟩ : ∃ g1, g1 = g.frz w.heap.size (.deferred (some [])) := ⟨_, rfl⟩
    rw [← hg1] at hle1 hB
    have hD1 : g1.fz w.heap.size = some (.deferred (some [])) := by rw [hg1]; simp [Gh.frz]
    have hC := hB.allocRaw (o := .loop (rec .ready none)) rfl
    have hlr : s.h.r (w.heap.size + 1) = none := by have := hB.freshR; rwa [World.size_alloc] at this
    rw [World.size_alloc] at hC
    obtain ⟨W1, hW1⟩ : ∃ W1, (w.alloc (.deferred (some []))).alloc (.loop (rec .ready none)) = W1 := ⟨_, rfl⟩
    rw [hW1] at hC
    have hcall := h (w.heap.size + 1) g1 (fun st pe => .loop (rec st pe)) (fun _ _ => rfl) hlr ?_
    rotate_left
    · intro args h2 K hlen h2l hbody g2 w2 vs hgb hv hh2
      have hl2 := (hh2.raw _ _ h2l).1.1
      have hvl : vs.size = ps.size := by rw [← Array.length_toList, ← hv.length, hlen, Array.length_toList]
      have hyd := run_yield (P := P) (args := vs) hl2 (by rw [hrec]; exact hvl)
      rw [hrec] at hyd
      refine ⟨_, _, _, _, hyd, roundIn_of_wpIn (F := Fence.wide) trivial ?_⟩
      obtain ⟨D2, hD2⟩ : ∃ D2 : Gh, D2 = { g2 with tl := [] } := ⟨_, rfl⟩
      have hD2l : D2.le g2 := by rw [hD2]; exact ⟨rfl, fun _ _ h => h, fun _ _ h => h⟩
      have hrel : Rel D2 g2 ⟨setAll s.tm ps.toList args, h2⟩ { tmps := (ps.zip vs).foldl (fun tmps (p : Nat × Value) => tmps.setIfInBounds p.1 p.2) a.tmps, defers := [] } w2 :=
        ⟨TR.setAll (hr.tm.cmono (hle1.cle.trans hgb)) hv hvl, hh2, Marks.nil _ _ (by rw [hD2])⟩
      refine wpIn_mono (awp_run hT hmix x ax hx (some (w.heap.size + 1)) D2 (.inr hsimp.1) _ _ hbody g2 _ w2 hD2l hrel) ?_
      rintro e a3 w3 ⟨g3, s3, ex, b1, b2, b3⟩
      cases ex with
      | norm =>
        cases e <;> try exact b3.elim
        obtain ⟨c1, c2⟩ := b2
        have hl3 := (b3.hr.raw _ _ c1).1.1
        refine ⟨_, run_beginRound hl3 (by rw [hrec]), ?_⟩
        have hrel3 : Rel D2 g3 ⟨s3.tm, s3.h.updR (w.heap.size + 1) (.loop (rec .busy none))⟩ a3 (w3.putObj (w.heap.size + 1) (.loop { rec .ready none with state := .busy })) := by
          have := b3.hr.putRaw (o' := .loop (rec .busy none)) c1 rfl
          rw [hrec] at this ⊢
          exact ⟨b3.tm, this, b3.df⟩
        refine wpIn_mono (awp_run hT hmix y ay hy (some (w.heap.size + 1)) D2 (.inr hsimp.2) _ _ c2 g3 a3 _ b1 hrel3) ?_
        rintro e a4 w4 ⟨g4, s4, ex, d1, d2, d3⟩
        replace d1 : g2.le g4 := by rw [hD2] at d1; exact ⟨d1.w0, d1.fz, d1.shp⟩
        cases ex with
        | norm =>
          cases e <;> try exact d3.elim
          obtain ⟨k1, k2⟩ := d2
          have hl4 := (d3.hr.raw _ _ k1).1.1
          have hp := d3.hr.putRaw (o' := .loop (rec .ready none)) k1 rfl
          refine ⟨_, _, run_endRound none hl4, g4, _, abool true, .bool true, rfl, d1, ?_, by simp [VR, abool], none, rfl, k2⟩
          rw [hrec] at hp ⊢; exact hp
        | ret =>
          cases e <;> try exact d3.elim
          obtain ⟨k1, k2⟩ := d2
          have hl4 := (d3.hr.raw _ _ k1).1.1
          have hp := d3.hr.putRaw (o' := .loop (rec .done (some .ret))) k1 rfl
          refine ⟨_, _, run_endRound (some .ret) hl4, g4, _, abool false, .bool false, rfl, d1, ?_, by simp [VR, abool], some .ret, rfl, k2⟩
          rw [hrec] at hp ⊢; exact hp
        | exit id =>
          cases e <;> try exact d3.elim
          obtain ⟨rfl, d3⟩ := d3
          obtain ⟨k1, k2⟩ := d2
          have hl4 := (d3.hr.raw _ _ k1).1.1
          have hp := d3.hr.putRaw (o' := .loop (rec .done (some (.exit id)))) k1 rfl
          refine ⟨_, _, run_endRound (some (.exit id)) hl4, g4, _, abool false, .bool false, rfl, d1, ?_, by simp [VR, abool], some (.exit id), rfl, k2⟩
          rw [hrec] at hp ⊢; exact hp
        | pan x => exact d2.elim
      | exit n => exact b2.elim
      | ret => exact b2.elim
      | pan x => exact b2.elim
    refine ⟨w.heap.size + 1, [{ target := .collected w.heap.size, args := #[] }], W1, { target := .fn (.func n) cs, args := #[.func (.yield (w.heap.size + 1)) #[] #[]] }, W1, n,
      #[.func (.yield (w.heap.size + 1)) #[] #[]] ++ cs, W1, ?_, ?_, fun _ _ => trivial, ?_, fun e => (by simp [Fr, Fence.wide] at e), ?_⟩
    · rw [← hW1, hrec]; exact run_enterLoop_outer _ _ _ _ _
    · simp only [resolve, e1]
      simp [go_sem]
    · obtain ⟨⟨fn', c1, c2, c3⟩, _⟩ := hcall
      have hb : ¬ fn'.body = none := by intro e; rw [e] at c3; cases c3
      have hn : fn'.name ≠ "runtime.NumGoroutine" := by simpa using c2
      simp [invoke, callFunc, c1, hn, hb]
    · refine (calls_in (r := none) (n := 0 - 1)).2 ?_
      have hvs : VRs g1 (.yld (w.heap.size + 1) g1 :: caps) (#[Value.func (.yield (w.heap.size + 1)) #[] #[]] ++ cs).toList := by
        rw [Array.toList_append]
        exact ⟨by simp only [VR]; exact ⟨trivial, Gh.cle.refl _⟩, e3.mono hle1 _ _⟩
      refine (hcall.2 g1 W1 _ hvs hC).mono ?_
      rintro e w2 ⟨g', h', E, b1, b2, ⟨⟨xr, rfl⟩, pe, st, c1, c2, c3⟩, b4⟩
      cases e with
      | panicked c => exact b4.elim
      | outgrown => exact b4.elim
      | returned v =>
        have hl2 := (b2.raw _ _ c1).1.1
        have hend := run_endLoop (P := P) hl2 (by rw [hrec]; exact c2)
        have hp := (b2.putRaw (o' := .loop { rec st pe with state := .exhausted }) c1 rfl).delRaw (w.heap.size + 1)
        have hhp : (h'.updR (w.heap.size + 1) (.loop { rec st pe with state := .exhausted })).delR (w.heap.size + 1) = h'.delR (w.heap.size + 1) :=
          Hp.ext (fun _ => rfl) (fun z => by simp only [Hp.delR, Hp.updR]; split <;> rfl)
        rw [hhp] at hp
        have hpen : (rec st pe).pending = pe := by rw [hrec]
        have hgg : g.le g' := hle1.trans b1
        have hrel : Rel D g' ⟨s.tm, h'.delR (w.heap.size + 1)⟩ { a with defers := [{ target := .collected w.heap.size, args := #[] }] ++ a.defers } (w2.putObj (w.heap.size + 1) (.loop { rec st pe with state := .exhausted })) := by
          refine ⟨hr.tm.mono hgg, hp, hr.df.push hgg f2 (b1.fz _ _ hD1) ?_ hnm⟩
          cases e : D.fz w.heap.size with
          | none => rfl
          | some o => have := hg.fz _ _ e; rw [f2] at this; cases this
        refine ⟨pe, _, hend.trans (congrArg (fun z => Result.ok z (w2.putObj (w.heap.size + 1) (.loop { rec st pe with state := .exhausted }))) hpen), ?_⟩
        cases pe with
        | none => exact ⟨g', _, .norm, hg.trans hgg, c3, hrel⟩
        | some c =>
          unfold apend at c3
          split at c3
          · rename_i e; cases e
          · rename_i e; cases e; exact wpIn_ret ⟨g', _, .ret, hg.trans hgg, c3, hrel⟩
          · rename_i e; cases e; exact wpIn_exit ⟨g', _, .exit _, hg.trans hgg, c3, rfl, hrel⟩
          · exact c3.elim
  | .scope x, ac, hs, r, D, hsi, Q, s, h, g, a, w, hg, hr => by
    simp only [slim] at hs
    split at hs <;> cases hs
    rename_i ax hx
    simp only [awp] at h
    obtain ⟨hr0, hnm⟩ : r = none ∧ D.nm = false := hsi.resolve_right (by simp [simpleC])
    subst hr0
    refine (wpIn_wide (n := 0)).2 (wp_scope_straight ((wpIn_wide (n := 0)).1 (wpIn_mono (awp_run hT hmix x ax hx none D (.inl ⟨rfl, hnm⟩) _ s h g a w hg hr) ?_)))
    rintro e a' w' ⟨g', s', ex, b1, b2, b3⟩
    cases ex with
    | norm => cases e <;> first | exact b3.elim | exact ⟨g', s', .norm, b1, b2, b3⟩
    | exit n => cases e <;> first | exact b3.elim | exact ⟨g', s', .exit n, b1, b2, b3⟩
    | ret => cases e <;> first | exact b3.elim | exact ⟨g', s', .ret, b1, b2, b3⟩
    | pan x => cases e <;> first | exact b3.elim | exact ⟨g', s', .pan x, b1, b2, b3⟩
  | .label _, ac, hs, r, D, hsi, Q, s, h, g, a, w, hg, hr => by
    cases hs
    exact wpIn_label ⟨g, s, .norm, hg, h, hr⟩
  | .goto _, ac, hs, _, _, _, _, _, _, _, _, _, _, _ => by cases hs
  | .refuse _, ac, hs, _, _, _, _, _, _, _, _, _, _, _ => by cases hs

/-! ### functions -/
/-- A value and a heap told otherwise. -/
def Shift (x : AV) (h : Hp) (x' : AV) (h' : Hp) : Prop := ∀ g w v, HR g h w → VR g x v → ∃ g', g.le g' ∧ HR g' h' w ∧ VR g' x' v

def resOne (T : Tab) (tm : List AV) (h : Hp) : ResultVar → Option AV
  | .tmp t => some (tm.getD t .any)
  | .cell p t => match tm.getD p .any with
    | .optr b sz r c => match T t, h b with
      | some ti, some o => if o.sz = sz then match o.rows[r]? with
        | some row => apart ti row c
        | none => none else none
      | _, _ => none
    | _ => none
def resAll (T : Tab) (tm : List AV) (h : Hp) : List ResultVar → Option (List AV)
  | [] => some []
  | r :: rs => match resOne T tm h r, resAll T tm h rs with
    | some x, some xs => some (x :: xs)
    | _, _ => none
/-- What results a frame's slots hold. -/
def aResults (T : Tab) (rs : List ResultVar) (tm : List AV) (h : Hp) : Option AV := match resAll T tm h rs with
  | some [x] => some x
  | some xs => some (.tup xs)
  | none => none

theorem aResults_run (hT : TabOK P T) {fn : Func} {rs : List ResultVar} (hr : fn.results.toList = rs) {tm : List AV} {h : Hp} {x : AV} (hx : aResults T rs tm h = some x) {g : Gh} {a : Act} (ht : TR g tm a.tmps) {w : World} (hh : HR g h w) :
    ∃ v, (results fn a.tmps).run P w = .ok v w ∧ VR g x v := by
  have key : ∀ (l : List ResultVar) (xs : List AV), resAll T tm h l = some xs →
      ∃ vs : List Value, (l.mapM (m := Sem) fun | .tmp t => pure (a.tmps.getD t undef) | .cell p t => do loadVar t (← asAddr (a.tmps.getD p undef))).run P w = .ok vs w ∧ VRs g xs vs ∧ vs.length = l.length := by
    intro l
    induction l with
    | nil => intro xs hx; simp [resAll] at hx; subst hx; exact ⟨[], rfl, trivial, rfl⟩
    | cons r l ih =>
      intro xs hx
      simp only [resAll] at hx
      split at hx <;> cases hx
      rename_i y ys hy hys
      obtain ⟨vs, h1, h2, h3⟩ := ih ys hys
      cases r with
      | tmp t =>
        cases hy
        have := ht.ev (.tmp t)
        simp only [ev, Act.eval] at this
        refine ⟨a.tmps.getD t undef :: vs, ?_, ?_, by simp [h3]⟩
        · rw [List.mapM_cons]
          simp only [Sem.run_bind, Sem.run_pure, Result.andThen_ok, h1]
        · exact ⟨by simpa using this, h2⟩
      | cell p t =>
        simp only [resOne] at hy
        have hp := ht.ev (.tmp p)
        simp only [ev, Act.eval] at hp
        split at hy <;> try cases hy
        rename_i b sz r c hq
        rw [hq] at hp
        simp only [VR] at hp
        split at hy <;> try cases hy
        rename_i ti o hti hb
        split at hy <;> try cases hy
        rename_i hsz
        split at hy <;> try cases hy
        rename_i row hrow
        obtain ⟨i', d, z, ht'⟩ := hT.get hti
        obtain ⟨q1, cur, e, ⟨fr, q2, qt⟩, q3, q4⟩ := hh.ob b o hb
        obtain ⟨l1, l2⟩ := q4.get hrow
        obtain ⟨v, hv1, hv2⟩ := load_run (w := w) hT ht' l2 hy (a := ⟨b, r * sz + c, none⟩) rfl (by simp [hsz]) q2
        refine ⟨v :: vs, ?_, ⟨hv2, h2⟩, by simp [h3]⟩
        rw [List.mapM_cons]
        have hp' : a.tmps.getD p undef = .pointer (some ⟨b, r * sz + c, none⟩) := hp
        have e1 : (do loadVar t (← asAddr (a.tmps.getD p undef)) : Sem Value).run P w = .ok v w := by
          rw [hp']; simp [asAddr, hv1]
        have e1' := e1
        rw [Sem.run_bind] at e1'
        simp only [Sem.run_bind, Sem.run_pure, Result.andThen_ok, h1, e1']
  unfold results
  rw [Array.mapM_eq_mapM_toList, hr]
  unfold aResults at hx
  split at hx <;> cases hx
  · rename_i hl
    obtain ⟨vs, h1, h2, h3⟩ := key rs _ hl
    match vs, h2 with
    | [v], h2 =>
      refine ⟨v, ?_, h2.1⟩
      simp only [Sem.run_bind, Sem.run_map, Sem.run_pure]
      have q := congrArg (fun (r : Result (List Value)) => (r.andThen fun a w' => Result.ok a.toArray w').andThen fun a w' => Result.ok (if h : a.size = 1 then a[0] else Value.tuple a) w') h1
      refine q.trans ?_
      simp
    | [], h2 => simp [VRs] at h2
    | _ :: _ :: _, h2 => simp [VRs] at h2
  · rename_i xs hne hl
    obtain ⟨vs, h1, h2, h3⟩ := key rs _ hl
    have hlen : vs.length ≠ 1 := by
      intro e
      have := h2.length
      rw [e] at this
      match xs, this with
      | [x], _ => exact hne x rfl
    refine ⟨.tuple vs.toArray, ?_, by simp only [VR]; exact ⟨_, rfl, h2⟩⟩
    simp only [Sem.run_bind, Sem.run_map, Sem.run_pure]
    have q := congrArg (fun (r : Result (List Value)) => (r.andThen fun a w' => Result.ok a.toArray w').andThen fun a w' => Result.ok (if h : a.size = 1 then a[0] else Value.tuple a) w') h1
    refine q.trans ?_
    simp [hlen]

/-- What is asked at a function's end. -/
def retQ (T : Tab) (rs : List ResultVar) (Q : AE → Hp → Prop) : AX → St → Prop
  | .norm, s | .ret, s => ∃ x x' h', aResults T rs s.tm s.h = some x ∧ Shift x s.h x' h' ∧ Q (.ret x') h'
  | .pan x, s => ∃ x' h', Shift x s.h x' h' ∧ Q (.pan x') h'
  | .exit _, _ => False

/-- a function's end: the marks are taken -/
theorem leaves_marks1 {D : Gh} {fn : Func} {tmps : Array Value} {R : Ending → World → Prop} {u : FrameMode} (hu : u ≠ .run) (hgl : Glob D.fz) {h : Hp} {tl : List Deferred} : ∀ (ds : List Deferred) (g : Gh) (w : World), D.le g → HR g h w → Marks1 D g ds →
    (∀ gf wf, D.le gf → g.cle gf → HR gf h wf → LeavesInM (Fr none) 0 P fn tmps R tl u wf) → LeavesInM (Fr none) 0 P fn tmps R (ds ++ tl) u w
  | [], g, w, hD, hh, hm, k => k g w hD (Gh.cle.refl g) hh
  | d :: ds, g, w, hD, hh, hm, k => by
    obtain ⟨b, e1, e2, e3⟩ := hm.1 d (by simp)
    subst e1
    have hw := hh.fz b _ e2
    let g1 : Gh := { g with fz := fun x => if x = b then none else g.fz x }
    have hg1 : ∀ x y, g1.fz x = some y → x ≠ b ∧ g.fz x = some y := fun x y hx => by
      have : (if x = b then none else g.fz x) = some y := hx
      split at this
      · cases this
      · rename_i e; exact ⟨e, this⟩
    have hne : ∀ x, x ≠ b → g1.fz x = g.fz x := fun x e => by show (if x = b then none else g.fz x) = _; rw [if_neg e]
    have hD1 : D.le g1 := by
      refine ⟨hD.w0, fun x y hx => ?_, hD.shp⟩
      rw [hne]
      · exact hD.fz x y hx
      · rintro rfl; rw [e3] at hx; cases hx
    have hc1 : g.cle g1 := by
      refine ⟨rfl, fun x c e fr hx => ?_, fun _ _ h => h⟩
      rw [hne]
      · exact hx
      · rintro rfl; rw [e2] at hx; cases hx
    have hh1 : HR g1 h (w.putObj b (.deferred none)) := by
      refine hh.turn hw rfl rfl hg1 rfl (glob_mono hD1.fz hgl) (fun x y hx => ⟨hx, fun _ _ h => h.cmono hc1 _ _⟩) (fun x y hx => .inl ⟨?_, hx⟩)
      rintro rfl
      have := (hh.raw _ y hx).2
      rw [e2] at this; cases this
    refine ⟨hu, .inl ⟨b, _, rfl, run_takeDeferred hw, ?_⟩⟩
    refine leaves_marks1 hu hgl ds g1 _ hD1 hh1 ⟨fun d hd => ?_, (List.nodup_cons.1 hm.2).2⟩ fun gf wf l1 l2 l3 => k gf wf l1 (hc1.trans l2) l3
    obtain ⟨b', q1, q2, q3⟩ := hm.1 d (List.mem_cons_of_mem _ hd)
    refine ⟨b', q1, ?_, q3⟩
    rw [hne]
    · exact q2
    · rintro rfl
      exact (List.nodup_cons.1 hm.2).1 (q1 ▸ hd)
theorem leaves_marks {D : Gh} {fn : Func} {tmps : Array Value} {R : Ending → World → Prop} {u : FrameMode} (hu : u ≠ .run) (hgl : Glob D.fz) {h : Hp} (ds : List Deferred) (g : Gh) (w : World) (hD : D.le g) (hh : HR g h w) (hm : Marks D g ds)
    (k : ∀ gf wf, D.le gf → g.cle gf → HR gf h wf → LeavesInM (Fr none) 0 P fn tmps R D.tl u wf) : LeavesInM (Fr none) 0 P fn tmps R ds u w := by
  obtain ⟨l1, rfl, _, m⟩ := hm
  exact leaves_marks1 hu hgl l1 g w hD hh m k

/-- A function's contract, out of its slimmed body. -/
theorem acalls_of (hT : TabOK P T) (hmix : P.follows .mixedOrders = true) {f : Nat} {fn : Func} {c : Code} {ac : AC} {ann : Nat → Ann} (hf : P.funcs[f]? = some fn) (hb : fn.body = some c) (hn : (fn.name == "runtime.NumGoroutine") = false)
    (hs : slim ann c = some ac) {rs : List ResultVar} (hr : fn.results.toList = rs) {nt : Nat} (hnt : fn.ntmps = nt) {args : List AV} {h : Hp} {Q : AE → Hp → Prop}
    (H : awp P T ac (retQ T rs Q) ⟨args ++ List.replicate (nt - args.length) .any, h⟩) : ACalls P f args h Q := by
  refine ⟨⟨fn, hf, hn, by rw [hb]; rfl⟩, fun g w vs hv hh => ?_⟩
  have hlen := hv.length
  subst hnt
  obtain ⟨D, hD⟩ : ∃ D : Gh, D = { g with tl := [], nm := false } := ⟨_, rfl⟩
  have hDl : D.le g := by rw [hD]; exact ⟨rfl, fun _ _ h => h, fun _ _ h => h⟩
  have hDt : D.tl = [] := by rw [hD]
  have hgl : ∀ g', D.le g' → g.le g' := fun g' k => by rw [hD] at k; exact ⟨k.w0, k.fz, k.shp⟩
  have hrel : Rel D g ⟨args ++ List.replicate (fn.ntmps - args.length) .any, h⟩ { tmps := vs ++ Array.replicate (fn.ntmps - vs.size) undef, defers := [] } w := by
    refine ⟨⟨by simp [hlen], fun k x hx => ?_⟩, hh, Marks.nil _ _ hDt⟩
    simp only at hx ⊢
    rw [List.getElem?_append] at hx
    split at hx
    · obtain ⟨v, h1, h2⟩ := hv.get hx
      have hk := (List.getElem?_eq_some_iff.1 h1).1
      refine ⟨v, ?_, h2⟩
      rw [Array.getElem?_append, if_pos (by simpa using hk)]
      simpa using h1
    · rw [List.getElem?_replicate] at hx
      split at hx <;> cases hx
      rename_i h1 h2
      refine ⟨undef, ?_, by simp [VR]⟩
      have : ¬ k < vs.size := by rw [← Array.length_toList]; omega
      rw [Array.getElem?_append, if_neg this, Array.getElem?_replicate, if_pos]
      have : vs.size = args.length := by rw [hlen, Array.length_toList]
      omega
  refine (calls_in (r := none) (n := 0)).1 (callsIn_of_wp_marks hf hb trivial (wpIn_mono (awp_run hT hmix c ac hs none D (.inl ⟨rfl, by rw [hD]⟩) _ _ H g _ w hDl hrel) ?_))
  rintro e a' w' ⟨g', s', ex, b1, b2, b3⟩
  have ret : (∃ x x' h', aResults T rs s'.tm s'.h = some x ∧ Shift x s'.h x' h' ∧ Q (.ret x') h') → Rel D g' s' a' w' → LeavesInM (Fr none) 0 P fn a'.tmps (fun e w' => ∃ g' h' E, g.le g' ∧ HR g' h' w' ∧ Q E h' ∧ match E, e with
      | .ret x, .returned v => VR g' x v
      | .pan x, .panicked chain => ∃ v, chain = [{ v, recovered := false }] ∧ VR g' x v
      | _, _ => False) a'.defers .returning w' := by
    rintro ⟨x, x', h', q1, q2, q3⟩ hrel
    refine leaves_marks (by simp) (by rw [hD]; exact hh.gl) a'.defers g' w' b1 hrel.hr hrel.df fun gf wf l1 l2 l3 => ?_
    rw [hDt]
    obtain ⟨v, v1, v2⟩ := aResults_run hT (w := wf) hr q1 (hrel.tm.cmono l2) l3
    obtain ⟨g'', c1, c2, c3⟩ := q2 gf wf v l3 v2
    exact ⟨v, v1, g'', h', .ret x', (hgl _ l1).trans c1, c2, q3, c3⟩
  cases ex with
  | norm =>
    cases e <;> try exact b3.elim
    exact ret b2 b3
  | ret =>
    cases e <;> try exact b3.elim
    exact ret b2 b3
  | exit n => exact b2.elim
  | pan x =>
    cases e <;> try exact b3.elim
    obtain ⟨_, hh', hd, v, rfl, hv'⟩ := b3
    obtain ⟨x', h', q2, q3⟩ := b2
    refine leaves_marks (by simp) (by rw [hD]; exact hh.gl) a'.defers g' w' b1 hh' hd fun gf wf l1 l2 l3 => ?_
    rw [hDt]
    obtain ⟨g'', c1, c2, c3⟩ := q2 gf wf v l3 (hv'.cmono l2 _ _)
    exact ⟨g'', h', .pan x', (hgl _ l1).trans c1, c2, q3, v, rfl, c3⟩

/-! ### telling otherwise -/
theorem Shift.refl (x : AV) (h : Hp) : Shift x h x h := fun g w v hh hv => ⟨g, Gh.le.refl g, hh, hv⟩
theorem Shift.forget {x : AV} {h h' : Hp} (k : h'.sub h) : Shift x h x h' := fun g w v hh hv => ⟨g, Gh.le.refl g, hh.forget k, hv⟩
theorem Shift.trans {x y z : AV} {h h' h'' : Hp} (a : Shift x h y h') (b : Shift y h' z h'') : Shift x h z h'' := fun g w v hh hv => by
  obtain ⟨g1, c1, c2, c3⟩ := a g w v hh hv
  obtain ⟨g2, d1, d2, d3⟩ := b g1 w v c2 c3
  exact ⟨g2, c1.trans d1, d2, d3⟩

theorem HR.frz {g : Gh} {h : Hp} {w : World} (hh : HR g h w) {b : Nat} {o : Ob} (hb : h b = some o) : ∃ c e fr, g.le (g.frz b (.cells c e fr)) ∧ HR (g.frz b (.cells c e fr)) (h.del b) w ∧ RowsAt g c o.sz 0 o.rows ∧ g.shp b = some (e, c.size) := by
  obtain ⟨q1, c, e, ⟨fr, q2, qt⟩, q3, q4⟩ := hh.ob b o hb
  have hle : g.le (g.frz b (.cells c e fr)) := ⟨rfl, fun k y hk => (by
    simp only [Gh.frz]
    rw [if_neg]
    · exact hk
    · intro e1; subst e1; rw [q1.1] at hk; cases hk), fun _ _ h => h⟩
  refine ⟨c, e, fr, hle, ?_, q4, q3⟩
  refine ⟨hh.os, hh.tape, hh.output, hh.size, ?_, hh.shp, ?_, glob_mono hle.fz hh.gl, fun x y hx => ⟨(hh.raw x y hx).1, by simp only [Gh.frz]; rw [if_neg (hh.raw_ne hb hx)]; exact (hh.raw x y hx).2⟩⟩
  · intro k y hk
    simp only [Gh.frz] at hk
    split at hk
    · rename_i e1; subst e1; cases hk; exact q2
    · exact hh.fz k y hk
  · intro k y hk
    simp only [Hp.del] at hk
    split at hk
    · cases hk
    · rename_i hne
      obtain ⟨a1, c', e', a2, a3, a4⟩ := hh.ob k y hk
      exact ⟨⟨by simp only [Gh.frz]; rw [if_neg hne]; exact a1.1, a1.2⟩, c', e', a2, a3, a4.mono hle c' y.sz 0 y.rows⟩

theorem Shift.freeze {h : Hp} {b sz off len : Nat} {o : Ob} (hb : h b = some o) (hsz : o.sz = sz) (hle : off + len ≤ o.rows.length) : Shift (.osl b sz off len) h (.isl sz ((o.rows.drop off).take len)) (h.del b) := by
  intro g w v hh hv
  subst hsz
  obtain ⟨c, e, fr, a1, a2, a3, a4⟩ := hh.frz hb
  refine ⟨_, a1, a2, ?_⟩
  simp only [VR] at hv ⊢
  obtain ⟨a, cap, rfl, hcap, hs, hv⟩ := hv
  have hlen : ((o.rows.drop off).take len).length = len := by simp; omega
  rw [hlen]
  refine ⟨some a, cap, rfl, hcap, ?_⟩
  by_cases h0 : len = 0
  · left; subst h0; simp
  · right
    rcases hv with hv | ⟨rfl, _⟩
    · omega
    · refine ⟨_, c, e, fr, rfl, rfl, by simp [Gh.frz], ?_⟩
      have := ((a3.mono a1 c o.sz 0 o.rows).drop off).take len
      rwa [Nat.zero_add] at this

theorem Shift.nil (h : Hp) (sz : Nat) : Shift anil h (.isl sz []) h := by
  intro g w v hh hv
  refine ⟨g, Gh.le.refl g, hh, ?_⟩
  simp only [VR, anil] at hv ⊢
  subst hv
  exact ⟨none, 0, rfl, Nat.le_refl _, .inl trivial⟩

/-- the same for a slot of a frame -/
theorem Retell.slot {tm : List AV} {h : Hp} {k : Nat} {x x' : AV} {h' : Hp} (hk : tm[k]? = some x) (hs : Shift x h x' h') : Retell ⟨tm, h⟩ ⟨tm.set k x', h'⟩ := by
  intro D g a w hr
  obtain ⟨v, hv1, hv2⟩ := hr.tm.at_ k x hk
  obtain ⟨g', c1, c2, c3⟩ := hs g w v hr.hr hv2
  refine ⟨g', c1, ⟨by simpa using hr.tm.len, fun j y hy => ?_⟩, c2, hr.df.mono c1⟩
  rw [List.getElem?_set] at hy
  split at hy
  · rename_i e; subst e
    split at hy <;> cases hy
    exact ⟨v, hv1, c3⟩
  · obtain ⟨u, u1, u2⟩ := hr.tm.at_ j y hy
    exact ⟨u, u1, u2.mono c1 _ _⟩

theorem Retell.refl (s : St) : Retell s s := fun D g a w hr => ⟨g, Gh.le.refl g, hr⟩
theorem Retell.trans {s s' s'' : St} (h : Retell s s') (k : Retell s' s'') : Retell s s'' := fun D g a w hr => by
  obtain ⟨g1, a1, a2⟩ := h D g a w hr
  obtain ⟨g2, b1, b2⟩ := k D g1 a w a2
  exact ⟨g2, a1.trans b1, b2⟩
theorem Retell.forget {tm : List AV} {h h' : Hp} (k : h'.sub h) : Retell ⟨tm, h⟩ ⟨tm, h'⟩ := fun D g a w hr => ⟨g, Gh.le.refl g, hr.tm, hr.hr.forget k, hr.df⟩

/-! ### what is owned, lent to a call that only reads -/
/-- a value that says nothing of memory -/
def flat : AV → Bool
  | .any | .val _ => true
  | .tup vs => vs.all fun | .val _ => true | .any => true | _ => false
  | _ => false

theorem flat_vr {x : AV} (hf : flat x = true) {g g' : Gh} {v : Value} (h : VR g x v) : VR g' x v := by
  cases x <;> simp only [flat, Bool.false_eq_true] at hf
  · simp [VR]
  · simpa [VR] using h
  · rename_i vs
    simp only [VR] at h ⊢
    obtain ⟨us, rfl, h⟩ := h
    refine ⟨us, rfl, ?_⟩
    generalize us.toList = l at h
    induction vs generalizing l with
    | nil => cases l <;> simp_all [VRs]
    | cons y ys ih =>
      cases l with
      | nil => simp [VRs] at h
      | cons u l =>
        simp only [VRs] at h ⊢
        simp only [List.all_cons, Bool.and_eq_true] at hf
        refine ⟨?_, ih hf.2 l h.2⟩
        have h1 := hf.1
        cases y <;> simp at h1
        · simp [VR]
        · simpa [VR] using h.1

/-- all that is owned, taken as what never changes -/
def Gh.all (g : Gh) (h : Hp) (w : World) : Gh := { g with fz := fun b => if (h b).isSome then w.heap[b]? else g.fz b }

theorem HR.all {g : Gh} {h : Hp} {w : World} (hh : HR g h w) : g.le (g.all h w) ∧ HR (g.all h w) ⟨fun _ => none, h.r⟩ w := by
  have hle : g.le (g.all h w) := by
    refine ⟨rfl, fun b o hb => ?_, fun _ _ h => h⟩
    simp only [Gh.all]
    split
    · rename_i hs
      obtain ⟨ob, ho⟩ := Option.isSome_iff_exists.1 hs
      have := (hh.ob b ob ho).1.1
      rw [this] at hb; cases hb
    · exact hb
  constructor
  · exact hle
  · refine ⟨hh.os, hh.tape, hh.output, hh.size, fun b o hb => ?_, hh.shp, fun b o hb => (by cases hb), glob_mono hle.fz hh.gl, fun x y hx => ⟨(hh.raw x y hx).1, ?_⟩⟩
    rotate_left
    · simp only [Gh.all]
      cases e : h x with
      | none => exact (hh.raw x y hx).2
      | some o => exact absurd rfl (hh.raw_ne e hx)
    simp only [Gh.all] at hb
    split at hb
    · exact hb
    · exact hh.fz b o hb

/-- x, told as x' while all that is owned stays as it is -/
def Lent (h : Hp) (x x' : AV) : Prop := ∀ g w v, HR g h w → VR g x v → VR (g.all h w) x' v
theorem Lent.refl (h : Hp) (x : AV) : Lent h x x := fun g w v hh hv => hv.mono hh.all.1 _ _
theorem Lent.osl {h : Hp} {b sz off len : Nat} {o : Ob} (hb : h b = some o) (hsz : o.sz = sz) (hle : off + len ≤ o.rows.length) : Lent h (.osl b sz off len) (.isl sz ((o.rows.drop off).take len)) := by
  intro g w v hh hv
  subst hsz
  obtain ⟨q1, c, e, ⟨fr, q2, qt⟩, q3, q4⟩ := hh.ob b o hb
  simp only [VR] at hv ⊢
  obtain ⟨a, cap, rfl, hcap, hs, hv⟩ := hv
  have hlen : ((o.rows.drop off).take len).length = len := by simp; omega
  rw [hlen]
  refine ⟨some a, cap, rfl, hcap, ?_⟩
  by_cases h0 : len = 0
  · left; subst h0; simp
  · right
    rcases hv with hv | ⟨rfl, _⟩
    · omega
    · refine ⟨_, c, e, fr, rfl, rfl, by simp [Gh.all, hb, q2], ?_⟩
      have := ((q4.mono hh.all.1 c o.sz 0 o.rows).drop off).take len
      rwa [Nat.zero_add] at this
theorem Lent.nil (h : Hp) (sz : Nat) : Lent h anil (.isl sz []) := by
  intro g w v hh hv
  simp only [VR, anil] at hv ⊢
  subst hv
  exact ⟨none, 0, rfl, Nat.le_refl _, .inl trivial⟩
theorem Lent.optr {h : Hp} {b sz r c : Nat} {o : Ob} (hb : h b = some o) (hsz : o.sz = sz) {row : List AV} (hr : o.rows[r]? = some row) : Lent h (.optr b sz r c) (.iptr row c) := by
  intro g w v hh hv
  subst hsz
  obtain ⟨q1, cur, e, ⟨fr, q2, qt⟩, q3, q4⟩ := hh.ob b o hb
  simp only [VR] at hv ⊢
  subst hv
  refine ⟨_, cur, e, fr, rfl, rfl, by simp, by simp [Gh.all, hb, q2], ?_⟩
  have := (q4.get hr).2.mono hh.all.1 _ _ _
  simpa using this

def Lents (h : Hp) : List AV → List AV → Prop
  | [], [] => True
  | x :: xs, y :: ys => Lent h x y ∧ Lents h xs ys
  | _, _ => False
theorem Lents.run {h : Hp} {g : Gh} {w : World} (hh : HR g h w) : ∀ {xs ys : List AV} {vs : List Value}, Lents h xs ys → VRs g xs vs → VRs (g.all h w) ys vs
  | [], [], [], _, _ => trivial
  | x :: xs, y :: ys, v :: vs, h1, h2 => ⟨h1.1 g w v hh h2.1, Lents.run hh h1.2 h2.2⟩
  | [], [], _ :: _, _, h2 => by simp [VRs] at h2
  | _ :: _, _ :: _, [], _, h2 => by simp [VRs] at h2

/-- A call that comes to one flat value may be lent what is owned. -/
theorem APure.lent {f : Nat} {args args' : List AV} {x : AV} {h : Hp} (hp : APure P f args' x) (hf : flat x = true) (hl : Lents h args args') : ACalls P f args h fun e h' => e = .ret x ∧ h' = h := by
  refine ⟨(hp h).1, fun g w vs hv hh => ?_⟩
  obtain ⟨hle, hall⟩ := hh.all
  refine ((hp ⟨fun _ => none, h.r⟩).2 (g.all h w) w vs (hl.run hh hv) hall).mono ?_
  rintro e w' ⟨g2, h2, E, a, b, ⟨rfl, rfl⟩, d⟩
  cases e with
  | returned v =>
    -- the memory that is owned is as it was
    have same : ∀ k, (h k).isSome → w'.heap[k]? = w.heap[k]? := by
      intro k hk
      obtain ⟨ob, ho⟩ := Option.isSome_iff_exists.1 hk
      obtain ⟨q1, c, t, ⟨fr, q2, qt⟩, q3, q4⟩ := hh.ob k ob ho
      rw [q2]
      refine b.fz k _ (a.fz k _ ?_)
      simp [Gh.all, ho, q2]
    let g3 : Gh := { g2 with fz := fun k => if (h k).isSome then none else g2.fz k }
    have hg3 : g.le g3 := by
      refine ⟨a.w0, fun k o hk => ?_, fun k y hk => a.shp k y hk⟩
      show (if (h k).isSome then none else g2.fz k) = some o
      split
      · rename_i hs
        obtain ⟨ob, ho⟩ := Option.isSome_iff_exists.1 hs
        have := (hh.ob k ob ho).1.1
        rw [this] at hk; cases hk
      · refine a.fz k o ?_
        simp only [Gh.all]
        rw [if_neg (by assumption)]; exact hk
    refine ⟨g3, h, .ret x, hg3, ?_, ⟨rfl, rfl⟩, flat_vr hf d⟩
    refine ⟨b.os, b.tape, b.output, b.size, fun k o hk => ?_, b.shp, fun k o hk => ?_, glob_mono hg3.fz hh.gl, fun x y hx => ⟨(b.raw x y hx).1, ?_⟩⟩
    rotate_right
    · show (if (h x).isSome then none else g2.fz x) = none
      rw [(b.raw x y hx).2]; split <;> rfl
    · have : (if (h k).isSome then none else g2.fz k) = some o := hk
      split at this
      · cases this
      · exact b.fz k o this
    · obtain ⟨q1, c, t, ⟨fr, q2, qt⟩, q3, q4⟩ := hh.ob k o hk
      refine ⟨⟨?_, q1.2.mono fun y hy => hg3.shp _ _ hy⟩, c, t, ⟨fr, ?_, qt⟩, hg3.shp _ _ q3, q4.mono hg3 c o.sz 0 o.rows⟩
      · show (if (h k).isSome then none else g2.fz k) = none
        rw [hk]; rfl
      · rw [same k (by rw [hk]; rfl)]; exact q2
  | panicked c => exact d.elim
  | outgrown => exact d.elim

end
end Go.Proofs.YtggcmnoacplbkaaDoor.AM
