/- The abstract machine, more: a function that defers a call of a function of its own, which recovers. -/
import Derived.Test.YtggcmnoacplbkaaDoorOwn
import Derived.RecoverIn
namespace Go.Proofs.YtggcmnoacplbkaaDoor.AM
open Go
set_option linter.unusedVariables false
set_option linter.unusedSimpArgs false

/-- how a frame is on its way out: with nothing to recover, or a panic's value -/
def OutWith (g : Gh) (x : AV) (u : FrameMode) : Prop := (u = .returning ∧ x = .val .nilIface) ∨ ∃ v, u = .panicking [{ v, recovered := false }] ∧ VR g x v

/-- What a deferred call does that recovers: 'x': what it recovers. -/
def ADef (P : Program) (f : Nat) (caps : List AV) (h : Hp) (x : AV) (Q : Hp → Prop) : Prop :=
  callable P f ∧ ∀ (g : Gh) (w : World) (vs : Array Value) (u : FrameMode), VRs g caps vs.toList → HR g h w → OutWith g x u →
    CallsDIn (Fr none) 0 P f vs u w fun e u' w' => ∃ v, e = .returned v ∧ settle u' = .returning ∧ ∃ g' h', g.le g' ∧ HR g' h' w' ∧ Q h'

theorem ADef.mono {P : Program} {f : Nat} {caps : List AV} {h : Hp} {x : AV} {Q Q' : Hp → Prop} (k : ADef P f caps h x Q) (hq : ∀ h', Q h' → Q' h') : ADef P f caps h x Q' :=
  ⟨k.1, fun g w vs u hv hh hu => (k.2 g w vs u hv hh hu).mono fun e u' w' ⟨v, a, b, g', h', c, d, q⟩ => ⟨v, a, b, g', h', c, d, hq _ q⟩⟩
theorem Own.of_sub {h0 h : Hp} (hs : h0.sub h) : Own h0 h [] := ⟨hs, fun _ => none, by simp, by simp, by simp⟩
section
variable {P : Program} {T : Tab}

/-- what is asked at the deferred function's end -/
def defQ (T : Tab) (rs : List ResultVar) (Q : Hp → Prop) : AX → St → Prop
  | .norm, s | .ret, s => (∃ x, aResults T rs s.tm s.h = some x) ∧ Q s.h
  | _, _ => False

theorem enter_rel {D g : Gh} {h : Hp} {w : World} (hD : D.tl = []) {args : List AV} {vs : Array Value} (hv : VRs g args vs.toList) (hh : HR g h w) (nt : Nat) :
    Rel D g ⟨args ++ List.replicate (nt - args.length) .any, h⟩ { tmps := vs ++ Array.replicate (nt - vs.size) undef, defers := [] } w := by
  have hlen := hv.length
  refine ⟨⟨by simp [hlen], fun k x hx => ?_⟩, hh, Marks.nil _ _ hD⟩
  simp only at hx ⊢
  rw [List.getElem?_append] at hx
  split at hx
  · obtain ⟨v, h1, h2⟩ := hv.get hx
    have hk := (List.getElem?_eq_some_iff.1 h1).1
    refine ⟨v, ?_, h2⟩
    rw [Array.getElem?_append, if_pos (by simpa using hk)]
    simpa using h1
  · rw [List.getElem?_replicate] at hx
    split at hx <;> cases hx
    rename_i h1 h2
    refine ⟨undef, ?_, by simp [VR]⟩
    have : ¬ k < vs.size := by rw [← Array.length_toList]; omega
    rw [Array.getElem?_append, if_neg this, Array.getElem?_replicate, if_pos]
    have : vs.size = args.length := by rw [hlen, Array.length_toList]
    omega

/-- A deferred function's contract, out of its body: its first region recovers, and keeps what it recovers in a slot. -/
theorem adef_of (hT : TabOK P T) (hmix : P.follows .mixedOrders = true) {f : Nat} {fn : Func} {id : Nat} {o0 o1 : Oper} {cR : Code} {ac : AC} {ann : Nat → Ann} (hf : P.funcs[f]? = some fn) (hn : (fn.name == "runtime.NumGoroutine") = false)
    (hb : fn.body = some (.seq (.region id #[o0, o1] false) cR)) {d0 d1 : Nat} (h0 : o0.op = .call ⟨.builtin .recover, #[], #[]⟩ ∧ o0.dst = some d0 ∧ o0.guard = none) (h1 : o1.op = .assign (.tmp d0) ∧ o1.dst = some d1 ∧ o1.guard = none)
    (hs : slim ann cR = some ac) (hsi : simpleC cR = true) {rs : List ResultVar} (hr : fn.results.toList = rs) {nt : Nat} (hnt : fn.ntmps = nt) {caps : List AV} {h : Hp} {x : AV} {Q : Hp → Prop} (hd0 : d0 < nt)
    (H : awp P T ac (defQ T rs Q) ⟨put (put (caps ++ List.replicate (nt - caps.length) .any) (some d0) x) (some d1) x, h⟩) : ADef P f caps h x Q := by
  refine ⟨⟨fn, hf, hn, by rw [hb]; rfl⟩, fun g w vs u hv hh hu => ?_⟩
  subst hnt
  obtain ⟨D, hD⟩ : ∃ D : Gh, D = { g with tl := [], nm := true } := ⟨_, rfl⟩
  have hDl : D.le g := by rw [hD]; exact ⟨rfl, fun _ _ h => h, fun _ _ h => h⟩
  have hDt : D.tl = [] := by rw [hD]
  have hDn : D.nm = true := by rw [hD]
  have hgl : ∀ g', D.le g' → g.le g' := fun g' k => by rw [hD] at k; exact ⟨k.w0, k.fz, k.shp⟩
  have hrel := enter_rel (D := D) hDt hv hh fn.ntmps
  obtain ⟨u1, v, e1, e2, e3⟩ : ∃ u1 v, VR g x v ∧ settle u1 = .returning ∧ ∀ (c₀ : Frame) (cs : List Frame), c₀.mode = u →
      (recoverD (c₀ :: cs) = some (v, { c₀ with mode := u1 } :: cs) ∨ (recoverD (c₀ :: cs) = none ∧ v = .nilIface ∧ u1 = u)) := by
    rcases hu with ⟨rfl, rfl⟩ | ⟨v, rfl, hv⟩
    · exact ⟨.returning, .nilIface, by simp [VR], rfl, fun c₀ cs hc => .inr ⟨by simp [recoverD, hc], rfl, rfl⟩⟩
    · exact ⟨.panicking [{ v, recovered := true }], v, hv, rfl, fun c₀ cs hc => .inl (by simp [recoverD, hc])⟩
  refine callsDIn_of_wpSIn hf hb trivial fun c₀ cs hc => ?_
  have rest : ∀ (cs2 : List Frame), cs2 = { c₀ with mode := u1 } :: cs → ∀ a, a.defers = [] → TR g (put (put (caps ++ List.replicate (fn.ntmps - caps.length) .any) (some d0) x) (some d1) x) a.tmps →
      cR.wpSIn (Fr none) 0 P (bodyPostS P fn c₀ cs fun e u' w' => ∃ v, e = .returned v ∧ settle u' = .returning ∧ ∃ g' h', g.le g' ∧ HR g' h' w' ∧ Q h') a cs2 w := by
    intro cs2 hcs a hda hta
    subst hcs
    refine wpSIn_of_wpIn rfl ?_
    have hrel2 : Rel D g ⟨put (put (caps ++ List.replicate (fn.ntmps - caps.length) .any) (some d0) x) (some d1) x, h⟩ a w := ⟨hta, hh, by rw [hda]; exact Marks.nil _ _ hDt⟩
    refine wpIn_mono (awp_run hT hmix cR ac hs none D (.inr hsi) _ _ H g a w hDl hrel2) ?_
    rintro e a' w' ⟨g', s', ex, b1, b2, b3⟩
    have fin : ∀ (hq : (∃ x, aResults T rs s'.tm s'.h = some x) ∧ Q s'.h), Rel D g' s' a' w' → a'.defers = [] ∧ ∃ u', { c₀ with mode := u1 } :: cs = { c₀ with mode := u' } :: cs ∧ ∃ v, (results fn a'.tmps).run P w' = .ok v w' ∧
        ∃ v_1, Ending.returned v = .returned v_1 ∧ settle u' = .returning ∧ ∃ g' h', g.le g' ∧ HR g' h' w' ∧ Q h' := by
      rintro ⟨⟨y, hy⟩, hq⟩ hrel'
      obtain ⟨l1, q1, q2, _⟩ := hrel'.df
      obtain ⟨v', v1, v2⟩ := aResults_run hT (w := w') hr hy hrel'.tm hrel'.hr
      exact ⟨by rw [q1, q2 hDn, hDt]; rfl, u1, rfl, v', v1, v', rfl, e2, g', s'.h, hgl _ b1, hrel'.hr, hq⟩
    cases ex with
    | norm =>
      cases e <;> try exact b3.elim
      exact fin b2 b3
    | ret =>
      cases e <;> try exact b3.elim
      exact fin b2 b3
    | exit n => exact b2.elim
    | pan x => exact b2.elim
  refine wpSIn_seq (wpSIn_region ?_)
  obtain ⟨p1, p2, p3⟩ := h0
  obtain ⟨p4, p5, p6⟩ := h1
  generalize ha : ({ tmps := vs ++ Array.replicate (fn.ntmps - vs.size) undef, defers := [] } : Act) = a at hrel
  have hda : a.defers = [] := by rw [← ha]
  have hlt : d0 < a.tmps.size := by
    rw [hrel.tm.len]; simp only [List.length_append, List.length_replicate]; omega
  have hrec : (execOp a.eval o0).run P w = .ok .recover w := by simp [execOp, p1, resolve, invoke, builtin]
  have w0 : Region.wanted o0 (yielded #[o0, o1] a.tmps) = true := by simp [Region.wanted, p3]
  have w1 : ∀ tm, Region.wanted o1 (yielded #[o0, o1] tm) = true := by intro tm; simp [Region.wanted, p6]
  have ab0 : ∀ f, o0.about P w a.eval = some f → (Fr none).fn f := fun _ _ => trivial
  have asg : ∀ cs2, cs2 = { c₀ with mode := u1 } :: cs → wpOpsSIn (Fr none) 0 P #[o0, o1] (Exit.thenS (cR.wpSIn (Fr none) 0 P (bodyPostS P fn c₀ cs fun e u' w' => ∃ v, e = .returned v ∧ settle u' = .returning ∧ ∃ g' h', g.le g' ∧ HR g' h' w' ∧ Q h'))
      (bodyPostS P fn c₀ cs fun e u' w' => ∃ v, e = .returned v ∧ settle u' = .returning ∧ ∃ g' h', g.le g' ∧ HR g' h' w' ∧ Q h')) [1] (a.put (some d0) v) cs2 w := by
    intro cs2 hcs
    have ev1 : (a.put (some d0) v).eval (.tmp d0) = v := by simp [Act.put, Act.eval, hlt]
    have r1 : (execOp (a.put (some d0) v).eval o1).run P w = .ok (.value v) w := by
      simp only [execOp, p4]
      rw [ev1]; rfl
    simp only [wpOpsSIn]
    rw [show (#[o0, o1] : Array Oper)[1]? = some o1 from rfl]
    simp only [w1, if_true, r1, p5]
    refine ⟨fun _ _ => trivial, ?_⟩
    exact rest cs2 hcs _ (by simp [Act.put, hda]) ((hrel.tm.put (some d0) e1).put (a := a.put (some d0) v) (some d1) e1)
  show wpOpsSIn (Fr none) 0 P #[o0, o1] _ [0, 1] a (c₀ :: cs) w
  rw [wpOpsSIn]
  rw [show (#[o0, o1] : Array Oper)[0]? = some o0 from rfl]
  refine ⟨ab0, ?_⟩
  rw [if_pos w0]
  simp only [hrec, p2]
  rcases e3 c₀ cs hc with e | ⟨e, rfl, rfl⟩
  · simp only [e]
    exact asg _ rfl
  · simp only [e]
    refine asg _ ?_
    rw [← hc]

/-- what is asked behind the deferred call -/
def defEnd (P : Program) (T : Tab) (rs : List ResultVar) (fd : Nat) (caps : List AV) (Q : AE → Hp → Prop) (x : AV) (s : St) : Prop :=
  ADef P fd caps s.h x fun h' => ∃ y x' h'', aResults T rs s.tm h' = some y ∧ Shift y h' x' h'' ∧ Q (.ret x') h''
def defB (P : Program) (T : Tab) (rs : List ResultVar) (fd : Nat) (caps : List AV) (Q : AE → Hp → Prop) : AX → St → Prop
  | .norm, s | .ret, s => defEnd P T rs fd caps Q (.val .nilIface) s
  | .pan x, s => s.tm ≠ [] ∧ defEnd P T rs fd caps Q x s
  | .exit _, _ => False
def defA (P : Program) (T : Tab) (rs : List ResultVar) (fd : Nat) (capo : List Operand) (d0 : Nat) (aB : AC) (Q : AE → Hp → Prop) : AX → St → Prop
  | .norm, s => d0 < s.tm.length ∧ awp P T aB (defB P T rs fd (capo.map (ev s.tm)) Q) ⟨put s.tm (some d0) (.fn (.func fd) [] (capo.map (ev s.tm))), s.h⟩
  | _, _ => False

/-- A function that defers a call of a function, which recovers: its contract. -/
theorem acalls_def (hT : TabOK P T) (hmix : P.follows .mixedOrders = true) {f : Nat} {fn : Func} {id : Nat} {o0 o1 : Oper} {cA cB : Code} {aA aB : AC} {ann : Nat → Ann} (hf : P.funcs[f]? = some fn) (hn : (fn.name == "runtime.NumGoroutine") = false)
    (hb : fn.body = some (.seq cA (.seq (.region id #[o0, o1] false) cB))) {d0 fd : Nat} {capo : Array Operand} (h0 : o0.op = .makeFunc (.func fd) #[] capo ∧ o0.dst = some d0 ∧ o0.guard = none) (h1 : o1.op = .defer ⟨.value (.tmp d0), #[], #[]⟩ ∧ o1.dst = none ∧ o1.guard = none)
    (hsA : slim ann cA = some aA) (hsi : simpleC cA = true) (hsB : slim ann cB = some aB) {rs : List ResultVar} (hr : fn.results.toList = rs) {nt : Nat} (hnt : fn.ntmps = nt) {args : List AV} {h : Hp} {Q : AE → Hp → Prop} (hcd : callable P fd)
    (H : awp P T aA (defA P T rs fd capo.toList d0 aB Q) ⟨args ++ List.replicate (nt - args.length) .any, h⟩) : ACalls P f args h Q := by
  refine ⟨⟨fn, hf, hn, by rw [hb]; rfl⟩, fun g w vs hv hh => ?_⟩
  subst hnt
  have hvl : vs.size = args.length := by rw [← Array.length_toList, hv.length]
  obtain ⟨D, hD⟩ : ∃ D : Gh, D = { g with tl := [], nm := true } := ⟨_, rfl⟩
  have hDl : D.le g := by rw [hD]; exact ⟨rfl, fun _ _ h => h, fun _ _ h => h⟩
  have hDt : D.tl = [] := by rw [hD]
  have hDn : D.nm = true := by rw [hD]
  have hgl : ∀ g', D.le g' → g.le g' := fun g' k => by rw [hD] at k; exact ⟨k.w0, k.fz, k.shp⟩
  have hrel := enter_rel (D := D) hDt hv hh fn.ntmps
  obtain ⟨R, hR⟩ : ∃ R : Ending → World → Prop, R = fun e w' => ∃ g' h' E, g.le g' ∧ HR g' h' w' ∧ Q E h' ∧ match E, e with
      | .ret x, .returned v => VR g' x v
      | .pan x, .panicked chain => ∃ v, chain = [{ v, recovered := false }] ∧ VR g' x v
      | _, _ => False := ⟨_, rfl⟩
  suffices key : CallsIn (Fr none) 0 P f vs w R by rw [hR] at key; exact (calls_in (r := none) (n := 0)).1 key
  refine callsIn_of_wp_marks hf hb trivial (wpIn_seq (wpIn_mono (awp_run hT hmix cA aA hsA none D (.inr hsi) _ _ H g _ w hDl hrel) ?_))
  rintro e a1 w1 ⟨g1, s1, ex, b1, b2, b3⟩
  cases ex with
  | exit n => exact b2.elim
  | ret => exact b2.elim
  | pan x => exact b2.elim
  | norm =>
  cases e <;> try exact b3.elim
  obtain ⟨hlt, b2⟩ := b2
  obtain ⟨p1, p2, p3⟩ := h0
  obtain ⟨p4, p5, p6⟩ := h1
  have hda : a1.defers = [] := by
    obtain ⟨l1, q1, q2, _⟩ := b3.df
    rw [q1, q2 hDn, hDt]; rfl
  have hlt' : d0 < a1.tmps.size := by rw [b3.tm.len]; exact hlt
  obtain ⟨F, hF⟩ : ∃ F : Value, F = .func (.func fd) #[] (capo.map a1.eval) := ⟨_, rfl⟩
  have hFv : VR g1 (.fn (.func fd) [] (capo.toList.map (ev s1.tm))) F := by
    rw [hF]; simp only [VR]
    exact ⟨_, _, rfl, by simp [VRs], by rw [Array.toList_map]; exact VRs.of (fun x => b3.tm.ev x) _⟩
  have hcv : VRs g1 (capo.toList.map (ev s1.tm)) (capo.map a1.eval).toList := by rw [Array.toList_map]; exact VRs.of (fun x => b3.tm.ev x) _
  obtain ⟨d, hd⟩ : ∃ d : Deferred, d = { target := .fn (.func fd) (capo.map a1.eval), args := #[] } := ⟨_, rfl⟩
  refine wpIn_seq (wpIn_region ?_)
  have w0 : Region.wanted o0 (yielded #[o0, o1] a1.tmps) = true := by simp [Region.wanted, p3]
  have w1' : ∀ tm, Region.wanted o1 (yielded #[o0, o1] tm) = true := by intro tm; simp [Region.wanted, p6]
  have r0 : (o0.semAt (Fr none).round a1.eval).run P w1 = .ok (.value F) w1 := by
    show (Oper.semAt none a1.eval o0).run P w1 = _
    rw [Oper.semAt_none, hF]
    simp [execOp, p1, Instr.makeFunc]
  have r1 : (o1.semAt (Fr none).round (a1.put (some d0) F).eval).run P w1 = .ok (.defer d) w1 := by
    show (Oper.semAt none (a1.put (some d0) F).eval o1).run P w1 = _
    have ev1 : (a1.put (some d0) F).eval (.tmp d0) = F := by simp [Act.put, Act.eval, hlt']
    rw [Oper.semAt_none]
    simp only [execOp, p4, resolve]
    rw [ev1, hF, hd]
    simp [Deferred.ofValue]
  show wpOpsIn (Fr none) 0 P #[o0, o1] _ [0, 1] a1 w1
  rw [wpOpsIn]
  rw [show (#[o0, o1] : Array Oper)[0]? = some o0 from rfl]
  simp only [w0, if_true]
  refine ⟨fun _ _ => trivial, ?_⟩
  rw [r0, Oper.uponIn_value, p2, wpOpsIn]
  rw [show (#[o0, o1] : Array Oper)[1]? = some o1 from rfl]
  simp only [w1', if_true]
  refine ⟨fun _ _ => trivial, ?_⟩
  rw [r1, Oper.uponIn_defer, p5, wpOpsIn]
  -- from here on the deferred call is told of
  obtain ⟨D2, hD2⟩ : ∃ D2 : Gh, D2 = { g1 with tl := [d], nm := false } := ⟨_, rfl⟩
  have hD2l : D2.le g1 := by rw [hD2]; exact ⟨rfl, fun _ _ h => h, fun _ _ h => h⟩
  have hg2 : ∀ g', D2.le g' → g1.le g' := fun g' k => by rw [hD2] at k; exact ⟨k.w0, k.fz, k.shp⟩
  have hrel2 : Rel D2 g1 ⟨put s1.tm (some d0) (.fn (.func fd) [] (capo.toList.map (ev s1.tm))), s1.h⟩ ({ a1.put (some d0) F with defers := d :: (a1.put (some d0) F).defers } : Act) w1 := by
    refine ⟨b3.tm.put (some d0) hFv, b3.hr, ?_⟩
    have : d :: (a1.put (some d0) F).defers = D2.tl := by rw [hD2]; simp [Act.put, hda]
    show Marks D2 g1 (d :: (a1.put (some d0) F).defers)
    rw [this]; exact Marks.tail _ _
  refine wpIn_mono (awp_run hT hmix cB aB hsB none D2 (.inl ⟨rfl, by rw [hD2]⟩) _ _ b2 g1 _ w1 hD2l hrel2) ?_
  rintro e a' w' ⟨g', s', ex, c1, c2, c3⟩
  have fin : ∀ (u : FrameMode) (x : AV) (s0 : St), defEnd P T rs fd (capo.toList.map (ev s1.tm)) Q x s0 → u ≠ .run → OutWith g' x u → HR g' s0.h w' → Marks D2 g' a'.defers → TR g' s0.tm a'.tmps → LeavesInM (Fr none) 0 P fn a'.tmps R a'.defers u w' := by
    intro u x s0 hE hu hout hhr hmk htm
    refine leaves_marks hu (by rw [hD2]; exact b3.hr.gl) a'.defers g' w' c1 hhr hmk fun gf wf l1 l2 l3 => ?_
    rw [hD2]
    show LeavesInM (Fr none) 0 P fn a'.tmps R [d] u wf
    obtain ⟨⟨fn', k1, k2, k3⟩, hcall⟩ := hE
    have hb' : ¬ fn'.body = none := by intro e; rw [e] at k3; cases k3
    have hn' : fn'.name ≠ "runtime.NumGoroutine" := by simpa using k2
    refine ⟨hu, .inr ⟨fun e => (by simp [Fr, Fence.wide] at e), .func fd, capo.map a1.eval, fd, capo.map a1.eval, by rw [hd], ?_, fun _ _ => trivial, ?_⟩⟩
    · rw [hd]; simp [invoke, callFunc, k1, hn', hb']
    · have hout' : OutWith gf x u := by
        rcases hout with q | ⟨v, q1, q2⟩
        · exact .inl q
        · exact .inr ⟨v, q1, q2.cmono l2 _ _⟩
      refine (hcall gf wf (capo.map a1.eval) u (hcv.cmono ((hg2 _ c1).cle.trans l2)) l3 hout').mono ?_
      rintro e u' w2 ⟨v, rfl, hset, g3, h3, m1, m2, y, x', h'', m3, m4, m5⟩
      show LeavesInM (Fr none) 0 P fn a'.tmps R [] (settle u') w2
      rw [hset]
      obtain ⟨v', v1, v2⟩ := aResults_run hT (w := w2) hr m3 (htm.cmono (l2.trans m1.cle)) m2
      obtain ⟨g4, n1, n2, n3⟩ := m4 g3 w2 v' m2 v2
      refine ⟨v', v1, ?_⟩
      rw [hR]
      refine ⟨g4, h'', .ret x', ?_, n2, m5, n3⟩
      have := l1.trans m1
      exact (hgl _ b1).trans ((hg2 _ this).trans n1)
  cases ex with
  | norm =>
    cases e <;> try exact c3.elim
    exact fin .returning _ s' c2 (by simp) (.inl ⟨rfl, rfl⟩) c3.hr c3.df c3.tm
  | ret =>
    cases e <;> try exact c3.elim
    exact fin .returning _ s' c2 (by simp) (.inl ⟨rfl, rfl⟩) c3.hr c3.df c3.tm
  | exit n => exact c2.elim
  | pan x =>
    cases e <;> try exact c3.elim
    obtain ⟨q1, q2, q3, v, rfl, q4⟩ := c3
    obtain ⟨c2, c4⟩ := c2
    exact fin (.panicking [{ v, recovered := false }]) x s' c4 (by simp) (.inr ⟨v, rfl, q4⟩) q2 q3 (q1.resolve_left c2)
end
end Go.Proofs.YtggcmnoacplbkaaDoor.AM
