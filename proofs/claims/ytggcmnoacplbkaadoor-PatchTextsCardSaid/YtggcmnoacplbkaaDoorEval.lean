/- How the abstract machine is run by simp: the rules, laid into the set 'push_cast'. -/
import Derived.Test.YtggcmnoacplbkaaDoorAm9
import Derived.Laws.Strings
namespace Go.Proofs.YtggcmnoacplbkaaDoor.AM
open Go
set_option linter.unusedVariables false
set_option linter.unusedSimpArgs false

section
variable {P : Program} {T : Tab}
theorem awp_skip (Q : AX → St → Prop) (s : St) : awp P T .skip Q s = Q .norm s := rfl
theorem awp_reg (os : List AO) (Q : AX → St → Prop) (s : St) : awp P T (.reg os) Q s = aOps P T (Q .norm) (fun tm x h => Q (.pan x) ⟨tm, h⟩) os s := rfl
theorem awp_draw (os : List AO) (p : Plan) (Q : AX → St → Prop) (s : St) : awp P T (.draw os p) Q s = aPlan P T (fun i => os.getD i dfltO) (Q .norm) (fun x h => Q (.pan x) ⟨[], h⟩) p s := rfl
theorem awp_seq (a b : AC) (Q : AX → St → Prop) (s : St) : awp P T (.seq a b) Q s = awp P T a (athen (awp P T b Q) Q) s := rfl
theorem awp_block (id : Nat) (b : AC) (Q : AX → St → Prop) (s : St) : awp P T (.block id b) Q s = awp P T b (ablock id Q) s := rfl
theorem awp_exit (id : Nat) (Q : AX → St → Prop) (s : St) : awp P T (.exit id) Q s = Q (.exit id) s := rfl
theorem awp_ret (Q : AX → St → Prop) (s : St) : awp P T .ret Q s = Q .ret s := rfl
theorem awp_scope (b : AC) (Q : AX → St → Prop) (s : St) : awp P T (.scope b) Q s = awp P T b Q s := rfl

theorem athen_norm (n : St → Prop) (Q : AX → St → Prop) (s : St) : athen n Q .norm s = n s := rfl
theorem athen_exit (n : St → Prop) (Q : AX → St → Prop) (k : Nat) (s : St) : athen n Q (.exit k) s = Q (.exit k) s := rfl
theorem athen_ret (n : St → Prop) (Q : AX → St → Prop) (s : St) : athen n Q .ret s = Q .ret s := rfl
theorem athen_pan (n : St → Prop) (Q : AX → St → Prop) (x : AV) (s : St) : athen n Q (.pan x) s = Q (.pan x) s := rfl
theorem ablock_norm (id : Nat) (Q : AX → St → Prop) (s : St) : ablock id Q .norm s = Q .norm s := rfl
theorem ablock_exit (id : Nat) (Q : AX → St → Prop) (k : Nat) (s : St) : ablock id Q (.exit k) s = if k = id then Q .norm s else Q (.exit k) s := rfl
theorem ablock_ret (id : Nat) (Q : AX → St → Prop) (s : St) : ablock id Q .ret s = Q .ret s := rfl
theorem ablock_pan (id : Nat) (Q : AX → St → Prop) (x : AV) (s : St) : ablock id Q (.pan x) s = Q (.pan x) s := rfl

/-- the one row of slots tells no more than the other one -/
def Weak : List AV → List AV → Prop
  | [], [] => True
  | x :: xs, y :: ys => (y = .any ∨ x = y) ∧ Weak xs ys
  | _, _ => False
theorem Weak.get : ∀ {xs ys : List AV}, Weak xs ys → xs.length = ys.length ∧ ∀ (k : Nat) y, ys[k]? = some y → y = .any ∨ xs[k]? = some y
  | [], [], _ => ⟨rfl, fun k y h => by simp at h⟩
  | x :: xs, y :: ys, h => by
    obtain ⟨h1, h2⟩ := h
    obtain ⟨g1, g2⟩ := h2.get
    refine ⟨by simp [g1], fun k z hz => ?_⟩
    cases k with
    | zero => simp at hz ⊢; subst hz; exact h1
    | succ k => simpa using g2 k z (by simpa using hz)
theorem Retell.weak {tm tm' : List AV} {h h' : Hp} (hw : Weak tm tm') (hs : h'.sub h) : Retell ⟨tm, h⟩ ⟨tm', h'⟩ := fun D g a w hr => by
  obtain ⟨h1, h2⟩ := hw.get
  refine ⟨g, Gh.le.refl g, ⟨by rw [hr.tm.len]; exact h1, fun k y hy => ?_⟩, hr.hr.forget hs, hr.df⟩
  rcases h2 k y hy with rfl | e
  · have hk := (List.getElem?_eq_some_iff.1 hy).1
    have hl : a.tmps.size = tm.length := hr.tm.len
    have : k < a.tmps.size := by rw [hl, h1]; exact hk
    exact ⟨a.tmps[k], Array.getElem?_eq_getElem this, by simp [VR]⟩
  · exact hr.tm.at_ k y e

/-- A loop: the states of its rounds' begins, told by x; a measure. -/
theorem awp_loop {σ : Type} {b : AC} {Q : AX → St → Prop} {s : St} (st : σ → St) (inv : σ → Prop) (μ : σ → Nat) (x0 : σ) (h0 : Retell s (st x0)) (hi : inv x0)
    (h : ∀ x, inv x → awp P T b (athen (fun s'' => ∃ y, μ y < μ x ∧ inv y ∧ Retell s'' (st y)) Q) (st x)) : awp P T (.loop b) Q s := by
  refine ⟨fun n s => ∃ x, inv x ∧ μ x = n ∧ s = st x, ⟨μ x0, st x0, h0, x0, hi, rfl, rfl⟩, ?_⟩
  rintro n s' ⟨x, hx, rfl, rfl⟩
  have e : (athen (fun s'' => ∃ m s0, m < μ x ∧ Retell s'' s0 ∧ ∃ x, inv x ∧ μ x = m ∧ s0 = st x) Q) = athen (fun s'' => ∃ y, μ y < μ x ∧ inv y ∧ Retell s'' (st y)) Q := by
    funext e s''
    cases e <;> try rfl
    simp only [athen]
    apply propext
    constructor
    · rintro ⟨m, s0, hm, hr, y, hy, rfl, rfl⟩; exact ⟨y, hm, hy, hr⟩
    · rintro ⟨y, hm, hy, hr⟩; exact ⟨_, _, hm, hr, y, hy, rfl, rfl⟩
  rw [e]
  exact h x hx

/-- The end of a function that leaves the memory as it was, but for what is its own. -/
theorem retQ_ret {rs : List ResultVar} {Q : AE → Hp → Prop} {s : St} (x : AV) (h' : Hp) (hr : aResults T rs s.tm s.h = some x) (hs : h'.sub s.h) (hq : Q (.ret x) h') : retQ T rs Q .ret s :=
  ⟨x, x, h', hr, Shift.forget hs, hq⟩
theorem retQ_norm {rs : List ResultVar} {Q : AE → Hp → Prop} {s : St} (x : AV) (h' : Hp) (hr : aResults T rs s.tm s.h = some x) (hs : h'.sub s.h) (hq : Q (.ret x) h') : retQ T rs Q .norm s :=
  ⟨x, x, h', hr, Shift.forget hs, hq⟩

theorem awp_ghost {Q : AX → St → Prop} {s : St} (s' : St) (h : Retell s s') (hq : Q .norm s') : awp P T .ghost Q s := ⟨s', h, hq⟩
end

theorem wrap_i64 (x : Int) (h : -9223372036854775808 ≤ x ∧ x ≤ 9223372036854775807) : IntKind.i64.wrap x = x := by rw [IntKind.wrap_i64]; omega
theorem wrap_u8 (x : Int) (h : 0 ≤ x ∧ x ≤ 255) : IntKind.u8.wrap x = x := by
  simp [IntKind.wrap, IntKind.bits, IntKind.signed]; omega

/-- go on with a value, if there is one -/
def onSome {α : Type} (o : Option α) (f : α → Prop) : Prop := match o with | some x => f x | none => False
theorem onSome_some {α : Type} (x : α) (f : α → Prop) : onSome (some x) f = f x := rfl
/-- go on by a test -/
def onBool (x : AV) (a b : Prop) : Prop := match x with | .val (.bool t) => if t = true then a else b | _ => False
theorem onBool_true (a b : Prop) : onBool (.val (.bool true)) a b = a := rfl
theorem onBool_false (a b : Prop) : onBool (.val (.bool false)) a b = b := by simp [onBool]
theorem onBool_cond (c a b : Prop) [Decidable c] : onBool (.val (.bool (decide c))) a b = ((c → a) ∧ (¬ c → b)) := by
  by_cases h : c <;> simp [onBool, h]
theorem onBool_bool (c : Bool) (a b : Prop) : onBool (.val (.bool c)) a b = ((c = true → a) ∧ (c = false → b)) := by
  cases c <;> simp [onBool]

/-- go on by a test, the two ways kept folded -/
def fork {α β : Type} (x : AV) (p : α → Prop) (s : α) (q : β → Prop) (t : β) : Prop := onBool x (p s) (q t)
theorem fork_true {α β : Type} (p : α → Prop) (s : α) (q : β → Prop) (t : β) : fork (.val (.bool true)) p s q t = p s := rfl
theorem fork_false {α β : Type} (p : α → Prop) (s : α) (q : β → Prop) (t : β) : fork (.val (.bool false)) p s q t = q t := by simp [fork, onBool]
theorem fork_cond {α β : Type} (c : Prop) [Decidable c] (p : α → Prop) (s : α) (q : β → Prop) (t : β) : fork (.val (.bool (decide c))) p s q t = ((c → p s) ∧ (¬ c → q t)) := onBool_cond _ _ _
theorem fork_bool {α β : Type} (c : Bool) (p : α → Prop) (s : α) (q : β → Prop) (t : β) : fork (.val (.bool c)) p s q t = ((c = true → p s) ∧ (c = false → q t)) := onBool_bool _ _ _
theorem fork_congr {α β : Type} {x x' : AV} {p : α → Prop} {s s' : α} {q : β → Prop} {t t' : β} (e : x = x') : fork x p s q t = fork x' p s q t := by rw [e]

/-- go on by a guard: a skipped operation's slot says no -/
def gfork (x : AV) (want : Bool) (p : St → Prop) (s : St) (q : St → Prop) (t : St) : Prop := match x with
  | .val (.bool b) => if b = want then p s else q t
  | .val _ => q t
  | _ => False
theorem gfork_tt (p : St → Prop) (s : St) (q : St → Prop) (t : St) : gfork (.val (.bool true)) true p s q t = p s := rfl
theorem gfork_ff (p : St → Prop) (s : St) (q : St → Prop) (t : St) : gfork (.val (.bool false)) false p s q t = p s := rfl
theorem gfork_ft (p : St → Prop) (s : St) (q : St → Prop) (t : St) : gfork (.val (.bool false)) true p s q t = q t := by simp [gfork]
theorem gfork_tf (p : St → Prop) (s : St) (q : St → Prop) (t : St) : gfork (.val (.bool true)) false p s q t = q t := by simp [gfork]
theorem gfork_undef (w : Bool) (p : St → Prop) (s : St) (q : St → Prop) (t : St) : gfork (.val undef) w p s q t = q t := rfl
theorem gfork_cond (c : Prop) [Decidable c] (p : St → Prop) (s : St) (q : St → Prop) (t : St) : gfork (.val (.bool (decide c))) true p s q t = ((c → p s) ∧ (¬ c → q t)) := by
  by_cases h : c <;> simp [gfork, h]
theorem gfork_cond' (c : Prop) [Decidable c] (p : St → Prop) (s : St) (q : St → Prop) (t : St) : gfork (.val (.bool (decide c))) false p s q t = ((c → q t) ∧ (¬ c → p s)) := by
  by_cases h : c <;> simp [gfork, h]
theorem gfork_congr {x x' : AV} {w : Bool} {p : St → Prop} {s : St} {q : St → Prop} {t : St} (e : x = x') : gfork x w p s q t = gfork x' w p s q t := by rw [e]

section
variable {P : Program} {T : Tab} {pu : Bool} {ρ : Operand → AV} {h : Hp} {k X : AV → Hp → Prop}

theorem awp_cond (c : Operand) (a b : AC) (Q : AX → St → Prop) (s : St) : awp P T (.cond c a b) Q s = fork (ev s.tm c) (awp P T a Q) s (awp P T b Q) s := rfl

/-- one operation, and on -/
def one (P : Program) (T : Tab) (pu : Bool) (op : Op) (dst : Option Nat) (K : St → Prop) (X : AV → Hp → Prop) (s : St) : Prop := aRes P T pu op (ev s.tm) s.h (fun x h' => K ⟨put s.tm dst x, h'⟩) X
theorem aOps_nil (K : St → Prop) (X : List AV → AV → Hp → Prop) (s : St) : aOps P T K X [] s = K s := rfl
theorem aOps_plain (d : Option Nat) (op : Op) (pu : Bool) (os : List AO) (K : St → Prop) (X : List AV → AV → Hp → Prop) (s : St) : aOps P T K X (⟨d, op, none, pu⟩ :: os) s = one P T pu op d (aOps P T K X os) (X s.tm) s := rfl
theorem aOps_guard (d : Option Nat) (op : Op) (t : Nat) (want pu : Bool) (os : List AO) (K : St → Prop) (X : List AV → AV → Hp → Prop) (s : St) : aOps P T K X (⟨d, op, some (some t, want), pu⟩ :: os) s =
    gfork (s.tm.getD t .any) want (one P T pu op d (aOps P T K X os) (X s.tm)) s (aOps P T K X os) ⟨put s.tm d (.val undef), s.h⟩ := by
  simp only [aOps, aOp, gw, gfork]
  cases s.tm.getD t .any <;> try rfl
  rename_i v
  cases v <;> try rfl
  rename_i b
  by_cases e : b = want <;> simp [e] <;> rfl

theorem aPlan_done (f : Nat → AO) (K : St → Prop) (X : AV → Hp → Prop) (s : St) : aPlan P T f K X .done s = K s := rfl
/-- an operation of a plan, and on -/
def planned (P : Program) (T : Tab) (o : AO) (K : St → Prop) (X : AV → Hp → Prop) (s : St) : Prop := aOp P T o K X s
theorem aPlan_op (os : List AO) (i : Nat) (p : Plan) (K : St → Prop) (X : AV → Hp → Prop) (s : St) : aPlan P T (fun i => os.getD i dfltO) K X (.op i p) s = planned P T (os.getD i dfltO) (aPlan P T (fun i => os.getD i dfltO) K X p) X s := rfl
theorem aPlan_both (f : Nat → AO) (p q : Plan) (K : St → Prop) (X : AV → Hp → Prop) (s : St) : aPlan P T f K X (.both p q) s = (aPlan P T f K X p s ∧ aPlan P T f K X q s) := rfl
theorem planned_plain (d : Option Nat) (op : Op) (pu : Bool) (K : St → Prop) (X : AV → Hp → Prop) (s : St) : planned P T ⟨d, op, none, pu⟩ K X s = one P T pu op d K X s := rfl
theorem planned_guard (d : Option Nat) (op : Op) (t : Nat) (want pu : Bool) (K : St → Prop) (X : AV → Hp → Prop) (s : St) : planned P T ⟨d, op, some (some t, want), pu⟩ K X s =
    gfork (s.tm.getD t .any) want (one P T pu op d K X) s K ⟨put s.tm d (.val undef), s.h⟩ := by
  simp only [planned, aOp, gw, gfork]
  cases s.tm.getD t .any <;> try rfl
  rename_i v
  cases v <;> try rfl
  rename_i b
  by_cases e : b = want <;> simp [e] <;> rfl

variable {d : Option Nat} {K : St → Prop} {tm : List AV}
/-- go on with a value in a slot -/
def goes (K : St → Prop) (d : Option Nat) (tm : List AV) (h : Hp) (o : Option AV) : Prop := match o with | some x => K ⟨put tm d x, h⟩ | none => False
theorem goes_some (x : AV) : goes K d tm h (some x) = K ⟨put tm d x, h⟩ := rfl

theorem one_move (x : Operand) : one P T pu (.move x) d K X ⟨tm, h⟩ = K ⟨put tm d (ev tm x), h⟩ := rfl
theorem one_assign (x : Operand) : one P T pu (.assign x) d K X ⟨tm, h⟩ = K ⟨put tm d (ev tm x), h⟩ := rfl
theorem one_pick (c x y : Operand) : one P T pu (.pick c x y) d K X ⟨tm, h⟩ = fork (ev tm c) K ⟨put tm d (ev tm x), h⟩ K ⟨put tm d (ev tm y), h⟩ := by
  simp only [one, aRes, acalm, fork, onBool]
  cases ev tm c <;> try rfl
  rename_i v
  cases v <;> try rfl
  rename_i b
  cases b <;> rfl
def binT (o : Option TI) (op : BinOp) (x y : AV) : Option AV := match o with | some ti => abin2 op ti x y | none => none
theorem binT_some (ti : TI) (op : BinOp) (x y : AV) : binT (some ti) op x y = abin2 op ti x y := rfl
theorem abin2_val (op : BinOp) (ti : TI) (u : Value) (y : AV) : abin2 op ti (.val u) y = abin op ti.kind (.val u) y := rfl
theorem abin2_osl (op : BinOp) (ti : TI) (b sz off n : Nat) (y : AV) : abin2 op ti (.osl b sz off n) y = abin op ti.kind (.osl b sz off n) y := rfl
theorem abin2_isl (op : BinOp) (ti : TI) (sz : Nat) (r : List (List AV)) (y : AV) : abin2 op ti (.isl sz r) y = abin op ti.kind (.isl sz r) y := rfl
theorem abin2_optr (op : BinOp) (ti : TI) (b sz r c : Nat) (y : AV) : abin2 op ti (.optr b sz r c) y = abin op ti.kind (.optr b sz r c) y := rfl
theorem abin2_iptr (op : BinOp) (ti : TI) (r : List AV) (c : Nat) (y : AV) : abin2 op ti (.iptr r c) y = abin op ti.kind (.iptr r c) y := rfl
theorem abin2_fn (op : BinOp) (ti : TI) (f : Fn) (a b : List AV) (y : AV) : abin2 op ti (.fn f a b) y = abin op ti.kind (.fn f a b) y := rfl
theorem abin2_eql (n b : Nat) (z : List Value) (k : TK) (es : List (Nat × TK)) (xs ys : List AV) : abin2 .eql ⟨n, b, z, k, some es⟩ (.agg xs) (.agg ys) = (aeqs es xs ys).map abool := rfl
theorem abin2_neq (n b : Nat) (z : List Value) (k : TK) (es : List (Nat × TK)) (xs ys : List AV) : abin2 .neq ⟨n, b, z, k, some es⟩ (.agg xs) (.agg ys) = (aeqs es xs ys).map fun r => abool (!r) := rfl
def ifcConst : Operand → Bool
  | .const .nilIface => true
  | _ => false
theorem aifc_none {op : BinOp} {x : AV} {y : Operand} (h : ifcConst y = false) : aifc op x y = none := by
  unfold aifc
  split <;> first | rfl | (simp [ifcConst] at h)
theorem one_binAny (op : BinOp) (t : Nat) (x y : Operand) (t' : Nat) (hy : nilConst y = false) (hy2 : ifcConst y = false) : one P T pu (.binOp op t x y t') d K X ⟨tm, h⟩ = goes K d tm h (binT (T t) op (ev tm x) (ev tm y)) := by
  simp only [one]
  rw [calm_aRes (by simp [calmOp, hy])]
  simp only [acalm, goes, binT, aifc_none hy2]
  cases T t <;> rfl
def binI (o : Option TI) (op : BinOp) (x : AV) : Option AV := match o with
  | some ti => (match aifc op x (.const .nilIface) with
    | some z => (match ti.kind with
      | .iface => some z
      | _ => none)
    | none => abin2 op ti x (.val .nilIface))
  | none => none
theorem one_binIfc (op : BinOp) (t : Nat) (x : Operand) (t' : Nat) : one P T pu (.binOp op t x (.const .nilIface) t') d K X ⟨tm, h⟩ = goes K d tm h (binI (T t) op (ev tm x)) := by
  simp only [one]
  rw [calm_aRes (by simp [calmOp, nilConst])]
  simp only [acalm, goes, binI]
  cases T t <;> rfl
section
variable {n1 n2 : Nat} {zz : List Value} {qq : Option (List (Nat × TK))}
theorem binI_eql_nil : binI (some ⟨n1, n2, zz, .iface, qq⟩) .eql (.val .nilIface) = some (abool true) := rfl
theorem binI_neq_nil : binI (some ⟨n1, n2, zz, .iface, qq⟩) .neq (.val .nilIface) = some (abool false) := rfl
theorem binI_eql_ifc (t : Nat) (v : AV) : binI (some ⟨n1, n2, zz, .iface, qq⟩) .eql (.ifc t v) = some (abool false) := rfl
theorem binI_neq_ifc (t : Nat) (v : AV) : binI (some ⟨n1, n2, zz, .iface, qq⟩) .neq (.ifc t v) = some (abool true) := rfl
/-- an interface's value of which only is told whether it is nil -/
def eface (t : Nat) (b : Bool) : AV := if b then .ifc t .any else .val .nilIface
theorem binI_eql_eface (t : Nat) (b : Bool) : binI (some ⟨n1, n2, zz, .iface, qq⟩) .eql (eface t b) = some (abool (!b)) := by cases b <;> rfl
theorem binI_neq_eface (t : Nat) (b : Bool) : binI (some ⟨n1, n2, zz, .iface, qq⟩) .neq (eface t b) = some (abool b) := by cases b <;> rfl
def tasT (o : Option TI) (t : Nat) (x : AV) : Option AV := match o with | some ti => atas ti t x | none => none
theorem one_typeAssert (x : Operand) (t' t : Nat) : one P T pu (.typeAssert x t' t true) d K X ⟨tm, h⟩ = goes K d tm h (tasT (T t) t (ev tm x)) := rfl
theorem tasT_same {fs : List (Nat × Nat)} (t : Nat) (v : AV) : tasT (some ⟨n1, n2, zz, .struct fs, qq⟩) t (.ifc t v) = some (.tup [v, abool true]) := by simp [tasT, atas]
def zAgg (zz : List Value) : AV := constAV (.agg zz.toArray)
theorem zAgg_eq (zz : List Value) : zAgg zz = if zz.all Value.oneCell' = true then .agg (zz.map .val) else .any := by simp only [zAgg, constAV, List.all_toArray, List.toList_toArray]
theorem tasT_nil {fs : List (Nat × Nat)} (t : Nat) : tasT (some ⟨n1, n2, zz, .struct fs, qq⟩) t (.val .nilIface) = some (.tup [zAgg zz, abool false]) := rfl
theorem one_max (x y : Operand) (tys : Array Nat) : one P T pu (.call ⟨.builtin .max, #[x, y], tys⟩) d K X ⟨tm, h⟩ = goes K d tm h (amax (ev tm x) (ev tm y)) := rfl
theorem one_min (x y : Operand) (tys : Array Nat) : one P T pu (.call ⟨.builtin .min, #[x, y], tys⟩) d K X ⟨tm, h⟩ = goes K d tm h (amin (ev tm x) (ev tm y)) := rfl
theorem amax_int (k : IntKind) (a b : Int) : amax (.val (.int k a)) (.val (.int k b)) = some (.val (.int k (if b > a then b else a))) := by simp [amax]
theorem amin_int (k : IntKind) (a b : Int) : amin (.val (.int k a)) (.val (.int k b)) = some (.val (.int k (if b < a then b else a))) := by simp [amin]
end
theorem one_binTmp (op : BinOp) (t : Nat) (x : Operand) (u t' : Nat) : one P T pu (.binOp op t x (.tmp u) t') d K X ⟨tm, h⟩ = goes K d tm h (binT (T t) op (ev tm x) (ev tm (.tmp u))) := one_binAny _ _ _ _ _ rfl rfl
theorem one_binInt (op : BinOp) (t : Nat) (x : Operand) (kk : IntKind) (n : Int) (t' : Nat) : one P T pu (.binOp op t x (.const (.int kk n)) t') d K X ⟨tm, h⟩ = goes K d tm h (binT (T t) op (ev tm x) (.val (.int kk n))) := one_binAny _ _ _ _ _ rfl rfl
theorem one_binBool (op : BinOp) (t : Nat) (x : Operand) (b : Bool) (t' : Nat) : one P T pu (.binOp op t x (.const (.bool b)) t') d K X ⟨tm, h⟩ = goes K d tm h (binT (T t) op (ev tm x) (.val (.bool b))) := one_binAny _ _ _ _ _ rfl rfl
theorem one_binStr (op : BinOp) (t : Nat) (x : Operand) (b : ByteArray) (t' : Nat) : one P T pu (.binOp op t x (.const (.string b)) t') d K X ⟨tm, h⟩ = goes K d tm h (binT (T t) op (ev tm x) (.val (.string b))) := one_binAny _ _ _ _ _ rfl rfl
theorem one_binPtr (op : BinOp) (t : Nat) (x : Operand) (b : Option Addr) (t' : Nat) : one P T pu (.binOp op t x (.const (.pointer b)) t') d K X ⟨tm, h⟩ = goes K d tm h (binT (T t) op (ev tm x) (.val (.pointer b))) := one_binAny _ _ _ _ _ rfl rfl
theorem one_binFn (op : BinOp) (t : Nat) (x : Operand) (t' : Nat) : one P T pu (.binOp op t x (.const .nilFunc) t') d K X ⟨tm, h⟩ = goes K d tm h (binT (T t) op (ev tm x) (.val .nilFunc)) := one_binAny _ _ _ _ _ rfl rfl
/-- a slice held against nil, and on -/
def nilK (o : Option TI) (op : BinOp) (K : St → Prop) (d : Option Nat) (tm : List AV) (h : Hp) (x : AV) : Prop := match o with
  | some ti => (match abin2 op ti x anil with
    | some z => K ⟨put tm d z, h⟩
    | none => (match ti.kind, op, x with
      | .sl _, .eql, .isl _ rows => (rows = [] → K ⟨put tm d (abool true), h⟩) ∧ K ⟨put tm d (abool false), h⟩
      | .sl _, .neq, .isl _ rows => (rows = [] → K ⟨put tm d (abool false), h⟩) ∧ K ⟨put tm d (abool true), h⟩
      | _, _, _ => False))
  | none => False
theorem one_binNil (op : BinOp) (t : Nat) (x : Operand) (t' : Nat) : one P T pu (.binOp op t x (.const (.slice none 0 0)) t') d K X ⟨tm, h⟩ = nilK (T t) op K d tm h (ev tm x) := by
  have e0 : ev tm (.const (.slice none 0 0)) = anil := rfl
  simp only [one, aRes, acalm, nilK, nilCmp, e0, aifc_none (show ifcConst (.const (.slice none 0 0)) = false from rfl)]
  generalize ev tm x = q
  cases T t with
  | none => rfl
  | some ti =>
    simp only
    cases abin2 op ti q anil with
    | some z => rfl
    | none =>
      simp only
      cases ti.kind <;> try rfl
      cases op <;> try rfl
      all_goals (cases q <;> rfl)
variable {n1 n2 : Nat} {zz : List Value} {ee : Nat} {qq : Option (List (Nat × TK))}
theorem nilK_eql_osl (b sz off n : Nat) : nilK (some ⟨n1, n2, zz, .sl ee, qq⟩) .eql K d tm h (.osl b sz off n) = K ⟨put tm d (.val (.bool false)), h⟩ := rfl
theorem nilK_neq_osl (b sz off n : Nat) : nilK (some ⟨n1, n2, zz, .sl ee, qq⟩) .neq K d tm h (.osl b sz off n) = K ⟨put tm d (.val (.bool true)), h⟩ := rfl
theorem nilK_eql_nil : nilK (some ⟨n1, n2, zz, .sl ee, qq⟩) .eql K d tm h (.val (.slice none 0 0)) = K ⟨put tm d (.val (.bool true)), h⟩ := rfl
theorem nilK_neq_nil : nilK (some ⟨n1, n2, zz, .sl ee, qq⟩) .neq K d tm h (.val (.slice none 0 0)) = K ⟨put tm d (.val (.bool false)), h⟩ := rfl
theorem nilK_eql_isl (sz : Nat) (rows : List (List AV)) (H : (rows = [] → K ⟨put tm d (.val (.bool true)), h⟩) ∧ K ⟨put tm d (.val (.bool false)), h⟩) : nilK (some ⟨n1, n2, zz, .sl ee, qq⟩) .eql K d tm h (.isl sz rows) := by
  cases rows with
  | nil => exact ⟨fun _ => H.1 rfl, H.2⟩
  | cons r rs => exact H.2
theorem nilK_neq_isl (sz : Nat) (rows : List (List AV)) (H : (rows = [] → K ⟨put tm d (.val (.bool false)), h⟩) ∧ K ⟨put tm d (.val (.bool true)), h⟩) : nilK (some ⟨n1, n2, zz, .sl ee, qq⟩) .neq K d tm h (.isl sz rows) := by
  cases rows with
  | nil => exact ⟨fun _ => H.1 rfl, H.2⟩
  | cons r rs => exact H.2
theorem nilK_congr {o o' : Option TI} {op : BinOp} {x x' : AV} (e : o = o') (e2 : x = x') : nilK o op K d tm h x = nilK o' op K d tm h x' := by rw [e, e2]

/-- a slice's cells made zero, and on -/
def clearK (o : Option TI) (T : Tab) (K : St → Prop) (d : Option Nat) (tm : List AV) (h : Hp) (x : AV) : Prop := match o with
  | some ti => (match ti.kind, x with
    | .sl e, .osl b sz off len => (match T e, h b with
      | some ei, some o => o.sz = sz ∧ ei.size = sz ∧ off + len ≤ o.rows.length ∧ K ⟨put tm d (.tup []), h.upd b ⟨sz, o.rows.take off ++ (List.replicate len (ei.zero.map .val) ++ o.rows.drop (off + len)), o.ty⟩⟩
      | _, _ => False)
    | .sl _, .val (.slice none 0 0) => K ⟨put tm d (.tup []), h⟩
    | .sl _, .isl _ [] => K ⟨put tm d (.tup []), h⟩
    | _, _ => False)
  | none => False
theorem one_clear (x : Operand) (t : Nat) : one P T pu (.call ⟨.builtin .clear, #[x], #[t]⟩) d K X ⟨tm, h⟩ = clearK (T t) T K d tm h (ev tm x) := rfl
theorem clearK_osl (b sz off len : Nat) {ei : TI} {o : Ob} (he : T ee = some ei) (hb : h b = some o) (h1 : o.sz = sz) (h2 : ei.size = sz) (h3 : off + len ≤ o.rows.length)
    (hk : K ⟨put tm d (.tup []), h.upd b ⟨sz, o.rows.take off ++ (List.replicate len (ei.zero.map .val) ++ o.rows.drop (off + len)), o.ty⟩⟩) : clearK (some ⟨n1, n2, zz, .sl ee, qq⟩) T K d tm h (.osl b sz off len) := by
  simp only [clearK, he, hb]
  exact ⟨h1, h2, h3, hk⟩
theorem clearK_isl (sz : Nat) : clearK (some ⟨n1, n2, zz, .sl ee, qq⟩) T K d tm h (.isl sz []) = K ⟨put tm d (.tup []), h⟩ := rfl
theorem clearK_congr {o o' : Option TI} {x x' : AV} (e : o = o') (e2 : x = x') : clearK o T K d tm h x = clearK o' T K d tm h x' := by rw [e, e2]
theorem one_unOp (op : UnOp) (t : Nat) (x : Operand) : one P T pu (.unOp op t x) d K X ⟨tm, h⟩ = goes K d tm h (aun op (ev tm x)) := rfl
theorem one_fieldAddr (t : Nat) (x : Operand) (f : Nat) : one P T pu (.fieldAddr t x f) d K X ⟨tm, h⟩ = goes K d tm h (afieldAddr T t (ev tm x) f) := rfl
theorem one_field (t : Nat) (x : Operand) (f : Nat) : one P T pu (.field t x f) d K X ⟨tm, h⟩ = goes K d tm h (afieldOf T t (ev tm x) f) := rfl
theorem one_indexAddr (t : Nat) (x i : Operand) : one P T pu (.indexAddr t x i) d K X ⟨tm, h⟩ = goes K d tm h (aindexAddr T t (ev tm x) (ev tm i)) := rfl
/-- a part of a value -/
def indexT (o : Option TI) (T : Tab) (x i : AV) : Option AV := match o, atInt i with
  | some ti, some n => if 0 ≤ n then
      match ti.kind, x with
      | .arr m e, .agg cs => match T e with
        | some ei => if n.toNat < m then apart ei cs (n.toNat * ei.size) else none
        | none => none
      | .str, .val (.string s) => match s[n.toNat]? with
        | some c => some (abyte c.toNat)
        | none => none
      | _, _ => none
    else none
  | _, _ => none
theorem indexT_str {n1 n2 : Nat} {zz : List Value} {q : Option (List (Nat × TK))} (s : ByteArray) (k : IntKind) (n : Int) : indexT (some ⟨n1, n2, zz, .str, q⟩) T (.val (.string s)) (.val (.int k n)) = if 0 ≤ n then match s[n.toNat]? with
        | some c => some (abyte c.toNat)
        | none => none
      else none := rfl
theorem indexT_arr {n1 n2 m e : Nat} {zz : List Value} {q : Option (List (Nat × TK))} (cs : List AV) (k : IntKind) (n : Int) : indexT (some ⟨n1, n2, zz, .arr m e, q⟩) T (.agg cs) (.val (.int k n)) = if 0 ≤ n then match T e with
        | some ei => if n.toNat < m then apart ei cs (n.toNat * ei.size) else none
        | none => none
      else none := rfl
theorem one_index (t : Nat) (x i : Operand) : one P T pu (.index t x i) d K X ⟨tm, h⟩ = goes K d tm h (indexT (T t) T (ev tm x) (ev tm i)) := by
  simp only [one, aRes, acalm, goes, aindex, indexT]
  cases T t <;> cases atInt (ev tm i) <;> rfl
theorem one_slice (t : Nat) (x : Operand) (lo hi : Option Operand) : one P T pu (.slice t x lo hi none) d K X ⟨tm, h⟩ = goes K d tm h (aslice T t (ev tm x) (lo.map (ev tm)) (hi.map (ev tm))) := rfl
/-- a conversion, and on -/
def textK (o : Option AV) (T : Tab) (s t : Nat) (K : St → Prop) (d : Option Nat) (tm : List AV) (h : Hp) (x : AV) : Prop := match o with
  | some z => K ⟨put tm d z, h⟩
  | none => aBytes T s t x h (fun y h' => K ⟨put tm d y, h'⟩)
theorem textK_congr {o o' : Option AV} {s t : Nat} {x x' : AV} (e : o = o') (e2 : x = x') : textK o T s t K d tm h x = textK o' T s t K d tm h x' := by rw [e, e2]
def convK (o : Option AV) (T : Tab) (s t : Nat) (K : St → Prop) (d : Option Nat) (tm : List AV) (h : Hp) (x : AV) : Prop := match o with
  | some z => K ⟨put tm d z, h⟩
  | none => textK (aText T s t x h) T s t K d tm h x
theorem convK_some (z : AV) (s t : Nat) (x : AV) : convK (some z) T s t K d tm h x = K ⟨put tm d z, h⟩ := rfl
theorem convK_none (s t : Nat) (x : AV) : convK none T s t K d tm h x = textK (aText T s t x h) T s t K d tm h x := rfl
theorem textK_some (z : AV) (s t : Nat) (x : AV) : textK (some z) T s t K d tm h x = K ⟨put tm d z, h⟩ := rfl
theorem textK_none (s t : Nat) (x : AV) : textK none T s t K d tm h x = aBytes T s t x h (fun y h' => K ⟨put tm d y, h'⟩) := rfl
theorem one_convert (s t : Nat) (x : Operand) : one P T pu (.convert s t x) d K X ⟨tm, h⟩ = convK (aconv T s t (ev tm x)) T s t K d tm h (ev tm x) := by
  simp only [one, aRes, acalm, convK, goes, textK]
  cases aconv T s t (ev tm x) with
  | some z => rfl
  | none => cases aText T s t (ev tm x) h <;> rfl
theorem convK_congr {o o' : Option AV} {s t : Nat} {x x' : AV} (e : o = o') (e2 : x = x') : convK o T s t K d tm h x = convK o' T s t K d tm h x' := by rw [e, e2]
def tupAt (x : AV) (i : Nat) : Option AV := match x with | .tup vs => vs[i]? | _ => none
theorem tupAt_tup (vs : List AV) (i : Nat) : tupAt (.tup vs) i = vs[i]? := rfl
theorem one_extract (x : Operand) (i : Nat) : one P T pu (.extract x i) d K X ⟨tm, h⟩ = goes K d tm h (tupAt (ev tm x) i) := by
  simp only [one, aRes, acalm, goes, tupAt]
  cases ev tm x <;> rfl
theorem one_makeFunc (f : Fn) (first caps : Array Operand) : one P T pu (.makeFunc f first caps) d K X ⟨tm, h⟩ = K ⟨put tm d (.fn f (first.toList.map (ev tm)) (caps.toList.map (ev tm))), h⟩ := rfl
/-- a struct or an array, built -/
def buildT (o : Option TI) (T : Tab) (parts : List (Nat × AV)) : Option AV := match o with
  | some ti => if aplaces T ti.kind = true then match afill (aplace T ti.kind) (ti.zero.map .val) parts with
      | some cs => some (.agg cs)
      | none => none
    else none
  | none => none
theorem buildT_struct {n1 n2 : Nat} {zz : List Value} {fs : List (Nat × Nat)} {q : Option (List (Nat × TK))} (parts : List (Nat × AV)) : buildT (some ⟨n1, n2, zz, .struct fs, q⟩) T parts = if aplaces T (.struct fs) = true then match afill (aplace T (.struct fs)) (zz.map .val) parts with
      | some cs => some (.agg cs)
      | none => none
    else none := rfl
theorem buildT_arr {n1 n2 n e : Nat} {zz : List Value} {q : Option (List (Nat × TK))} (parts : List (Nat × AV)) : buildT (some ⟨n1, n2, zz, .arr n e, q⟩) T parts = if aplaces T (.arr n e) = true then match afill (aplace T (.arr n e)) (zz.map .val) parts with
      | some cs => some (.agg cs)
      | none => none
    else none := rfl
theorem one_build (t : Nat) (ps : Array (Nat × Operand)) : one P T pu (.build t ps) d K X ⟨tm, h⟩ = goes K d tm h (buildT (T t) T (ps.toList.map fun p => (p.1, ev tm p.2))) := rfl
def chkNil : AV → Option AV
  | .iptr r c => some (.iptr r c)
  | .optr b sz i c => some (.optr b sz i c)
  | _ => none
theorem one_nilCheck (x : Operand) : one P T pu (.nilCheck x) d K X ⟨tm, h⟩ = goes K d tm h (chkNil (ev tm x)) := by
  simp only [one, aRes, acalm, goes, chkNil]
  cases ev tm x <;> rfl
theorem one_len (x : Operand) (t : Nat) : one P T pu (.call ⟨.builtin .len, #[x], #[t]⟩) d K X ⟨tm, h⟩ = goes K d tm h (alen T t (ev tm x)) := by
  simp only [one, aRes, acalm, goes]
  rfl
def ifcT (o : Option TI) (t : Nat) (x : AV) : Option AV := match o with | some ti => (match ti.kind with | .iface => none | _ => some (.ifc t x)) | none => none
theorem one_makeInterface (t : Nat) (x : Operand) : one P T pu (.makeInterface t x) d K X ⟨tm, h⟩ = goes K d tm h (ifcT (T t) t (ev tm x)) := by
  simp only [one, aRes, acalm, goes, ifcT]
  cases T t with
  | none => rfl
  | some ti => cases ti.kind <;> rfl

/-- a new block, and on -/
def news (K : St → Prop) (d : Option Nat) (tm : List AV) (h : Hp) (f : Nat → AV) (o : Ob) : Prop := ∀ b, h b = none → K ⟨put tm d (f b), h.upd b o⟩
def allocT (o : Option TI) (t : Nat) (K : St → Prop) (d : Option Nat) (tm : List AV) (h : Hp) : Prop := match o with | some ti => news K d tm h (fun b => .optr b ti.size 0 0) ⟨ti.size, [ti.zero.map .val], some (t, ti.size)⟩ | none => False
theorem allocT_some (ti : TI) (t : Nat) : allocT (some ti) t K d tm h = news K d tm h (fun b => .optr b ti.size 0 0) ⟨ti.size, [ti.zero.map .val], some (t, ti.size)⟩ := rfl
theorem one_alloc (t : Nat) : one P T pu (.alloc t) d K X ⟨tm, h⟩ = allocT (T t) t K d tm h := rfl
def boxT (o : Option TI) (t : Nat) (K : St → Prop) (d : Option Nat) (tm : List AV) (h : Hp) (x : AV) : Prop := match o with | some ti => x.okCells = true ∧ x.cells.length = ti.size ∧ news K d tm h (fun b => .optr b ti.size 0 0) ⟨ti.size, [x.cells], some (t, ti.size)⟩ | none => False
theorem boxT_some (ti : TI) (t : Nat) (x : AV) : boxT (some ti) t K d tm h x = (x.okCells = true ∧ x.cells.length = ti.size ∧ news K d tm h (fun b => .optr b ti.size 0 0) ⟨ti.size, [x.cells], some (t, ti.size)⟩) := rfl
theorem one_box (t : Nat) (x : Operand) : one P T pu (.box t x) d K X ⟨tm, h⟩ = boxT (T t) t K d tm h (ev tm x) := rfl

/-- what stands in an owned block -/
def rowAt (o : Option Ob) (sz i : Nat) : Option (List AV) := match o with | some ob => if ob.sz = sz then ob.rows[i]? else none | none => none
theorem rowAt_some (ob : Ob) (sz i : Nat) : rowAt (some ob) sz i = if ob.sz = sz then ob.rows[i]? else none := rfl
def partT (o : Option TI) (r : Option (List AV)) (c : Nat) : Option AV := match o, r with | some ti, some r => apart ti r c | _, _ => none
theorem partT_some (ti : TI) (r : List AV) (c : Nat) : partT (some ti) (some r) c = apart ti r c := rfl
def aload (o : Option TI) (h : Hp) (x : AV) : Option AV := match x with
  | .optr b sz i c => partT o (rowAt (h b) sz i) c
  | .iptr r c => partT o (some r) c
  | _ => none
theorem aload_optr (o : Option TI) (b sz i c : Nat) : aload o h (.optr b sz i c) = partT o (rowAt (h b) sz i) c := rfl
theorem aload_iptr (o : Option TI) (r : List AV) (c : Nat) : aload o h (.iptr r c) = partT o (some r) c := rfl
theorem one_load (t : Nat) (x : Operand) : one P T false (.load t x) d K X ⟨tm, h⟩ = goes K d tm h (aload (T t) h (ev tm x)) := by
  simp only [one, aRes, goes, Bool.false_eq_true, if_false]
  split
  · rename_i b sz i c e
    simp only [e, aload, partT, rowAt]
    cases T t with
    | none => simp
    | some ti =>
      cases h b with
      | none => simp
      | some o =>
        simp only
        cases e2 : o.rows[i]? with
        | none => by_cases e3 : o.sz = sz <;> simp [e3, e2]
        | some r =>
          by_cases e3 : o.sz = sz
          · simp only [e3, e2, true_and, if_true]; cases apart ti r c <;> rfl
          · simp [e3]
  · rename_i hno
    cases e : ev tm x with
    | optr b sz i c => exact absurd e (hno b sz i c)
    | iptr r c => simp only [aloadI, aload, partT]; cases T t <;> rfl
    | _ => simp [aloadI, aload]
/-- a load that must be of what never changes -/
def pload (o : Option TI) (x : AV) : Option AV := match x with
  | .iptr r c => partT o (some r) c
  | _ => none
theorem pload_iptr (o : Option TI) (r : List AV) (c : Nat) : pload o (.iptr r c) = partT o (some r) c := rfl
theorem one_pload (t : Nat) (x : Operand) : one P T true (.load t x) d K X ⟨tm, h⟩ = goes K d tm h (pload (T t) (ev tm x)) := by
  simp only [one, aRes, goes, if_true]
  cases e : ev tm x with
  | optr b sz i c => simp [pload]
  | iptr r c => simp only [aloadI, pload, partT]; cases T t <;> rfl
  | _ => simp [aloadI, pload]

def storeT (o : Option TI) (K : St → Prop) (d : Option Nat) (tm : List AV) (h : Hp) (ob : Option Ob) (b sz i c : Nat) (x : AV) : Prop := match o, ob with
  | some ti, some ob => match ob.rows[i]? with
    | some r => ob.sz = sz ∧ x.okCells = true ∧ x.cells.length = ti.size ∧ c + ti.size ≤ r.length ∧ K ⟨put tm d .any, h.upd b ⟨sz, ob.rows.set i (r.take c ++ x.cells ++ r.drop (c + ti.size)), ob.ty⟩⟩
    | none => False
  | _, _ => False
def storeP (o : Option TI) (K : St → Prop) (d : Option Nat) (tm : List AV) (h : Hp) (p x : AV) : Prop := match p with
  | .optr b sz i c => storeT o K d tm h (h b) b sz i c x
  | _ => False
theorem storeP_optr (o : Option TI) (b sz i c : Nat) (x : AV) : storeP o K d tm h (.optr b sz i c) x = storeT o K d tm h (h b) b sz i c x := rfl
def storeR (K : St → Prop) (d : Option Nat) (tm : List AV) (h : Hp) (ob : Ob) (r : Option (List AV)) (ti : TI) (b sz i c : Nat) (x : AV) : Prop := match r with
  | some r => ob.sz = sz ∧ x.okCells = true ∧ x.cells.length = ti.size ∧ c + ti.size ≤ r.length ∧ K ⟨put tm d .any, h.upd b ⟨sz, ob.rows.set i (r.take c ++ x.cells ++ r.drop (c + ti.size)), ob.ty⟩⟩
  | none => False
theorem storeT_some (ti : TI) (ob : Ob) (b sz i c : Nat) (x : AV) : storeT (some ti) K d tm h (some ob) b sz i c x = storeR K d tm h ob (ob.rows[i]?) ti b sz i c x := by
  simp only [storeT, storeR]
theorem storeR_some (ti : TI) (ob : Ob) (r : List AV) (b sz i c : Nat) (x : AV) : storeR K d tm h ob (some r) ti b sz i c x =
    (ob.sz = sz ∧ x.okCells = true ∧ x.cells.length = ti.size ∧ c + ti.size ≤ r.length ∧ K ⟨put tm d .any, h.upd b ⟨sz, ob.rows.set i (r.take c ++ x.cells ++ r.drop (c + ti.size)), ob.ty⟩⟩) := rfl
theorem one_store (t : Nat) (p x : Operand) : one P T pu (.store t p x) d K X ⟨tm, h⟩ = storeP (T t) K d tm h (ev tm p) (ev tm x) := by
  simp only [one, aRes, storeP, storeT]
  cases T t with
  | none => cases ev tm p <;> rfl
  | some ti =>
    cases ev tm p <;> try rfl
    rename_i b sz i c
    simp only
    cases h b <;> rfl

def callF (P : Program) (pu : Bool) (K : St → Prop) (X : AV → Hp → Prop) (d : Option Nat) (tm : List AV) (h : Hp) (f : AV) (args : List AV) : Prop := match f with
  | .fn (.func n) first caps =>
    if pu = true then ∃ x, APure P n (first ++ args ++ caps) x ∧ K ⟨put tm d x, h⟩
    else ACalls P n (first ++ args ++ caps) h fun e h' => match e with
      | .ret x => K ⟨put tm d x, h'⟩
      | .pan x => X x h'
  | .yld l gb => if pu = true then False else AYield P gb l args h fun x h' => K ⟨put tm d x, h'⟩
  | _ => False
/-- a call of a loop's yield, and on -/
def yields (P : Program) (K : St → Prop) (d : Option Nat) (tm : List AV) (h : Hp) (gb : Gh) (l : Nat) (args : List AV) : Prop := AYield P gb l args h fun x h' => K ⟨put tm d x, h'⟩
/-- a call that comes to one value, and on -/
def pures (P : Program) (K : St → Prop) (d : Option Nat) (tm : List AV) (h : Hp) (n : Nat) (args : List AV) : Prop := ∃ x, APure P n args x ∧ K ⟨put tm d x, h⟩
theorem pures_of {n : Nat} {args : List AV} (x : AV) (hp : APure P n args x) (hk : K ⟨put tm d x, h⟩) : pures P K d tm h n args := ⟨x, hp, hk⟩
/-- what goes on behind a call -/
def backK (K : St → Prop) (X : AV → Hp → Prop) (d : Option Nat) (tm : List AV) : AE → Hp → Prop
  | .ret x, h' => K ⟨put tm d x, h'⟩
  | .pan x, h' => X x h'
/-- a call, and on -/
def calls (P : Program) (K : St → Prop) (X : AV → Hp → Prop) (d : Option Nat) (tm : List AV) (h : Hp) (n : Nat) (args : List AV) : Prop := ACalls P n args h (backK K X d tm)
theorem calls_of {n : Nat} {args : List AV} {Q : AE → Hp → Prop} (hc : ACalls P n args h Q) (hk : ∀ e h', Q e h' → backK K X d tm e h') : calls P K X d tm h n args := hc.mono hk
/-- a call that comes to a value and leaves all as it was -/
theorem calls_pure {n : Nat} {args : List AV} (x : AV) (hp : APure P n args x) (hk : K ⟨put tm d x, h⟩) : calls P K X d tm h n args :=
  calls_of (hp h) (by rintro e h' ⟨rfl, rfl⟩; exact hk)
theorem callF_pure (n : Nat) (first caps args : List AV) : callF P true K X d tm h (.fn (.func n) first caps) args = pures P K d tm h n (first ++ args ++ caps) := rfl
theorem callF_call (n : Nat) (first caps args : List AV) : callF P false K X d tm h (.fn (.func n) first caps) args = calls P K X d tm h n (first ++ args ++ caps) := by
  simp only [callF, calls, Bool.false_eq_true, if_false]
  congr 1
  funext e h'
  cases e <;> rfl
theorem callF_yld (l : Nat) (gb : Gh) (args : List AV) : callF P false K X d tm h (.yld l gb) args = yields P K d tm h gb l args := rfl
theorem one_call (f : Operand) (args : Array Operand) (tys : Array Nat) : one P T pu (.call ⟨.value f, args, tys⟩) d K X ⟨tm, h⟩ = callF P pu K X d tm h (ev tm f) (args.toList.map (ev tm)) := by
  unfold one callF
  simp only [aRes]
  cases ev tm f <;> rfl

def appendK (K : St → Prop) (d : Option Nat) (tm : List AV) : AV → Hp → Prop := fun x h' => K ⟨put tm d x, h'⟩
def appT (o1 o2 : Option TI) (T : Tab) (K : St → Prop) (d : Option Nat) (tm : List AV) (h : Hp) (s x : AV) : Prop := match o1, o2 with
  | some ti, some tix => match ti.kind with
    | .sl e => match T e with
      | some ei => match aDst ei.size s h, aSrc ei.size tix.kind x h with
        | some (rs, ob), some xs =>
          (rs.length + xs.length) * ei.bytes ≤ 140737488355328 ∧ 0 < ei.size ∧ 0 < ei.bytes ∧
          match ob with
          | none => (xs = [] → K ⟨put tm d anil, h⟩) ∧ (xs ≠ [] → news K d tm h (fun b => .osl b ei.size 0 xs.length) ⟨ei.size, xs, some (e, 0)⟩)
          | some (b0, ty) => news K d tm (h.del b0) (fun b => .osl b ei.size 0 (rs.length + xs.length)) ⟨ei.size, rs ++ xs, keepTy e ty⟩
        | _, _ => False
      | none => False
    | _ => False
  | _, _ => False
theorem one_append (s x : Operand) (t tx : Nat) : one P T pu (.call ⟨.builtin .append, #[s, x], #[t, tx]⟩) d K X ⟨tm, h⟩ = appT (T t) (T tx) T K d tm h (ev tm s) (ev tm x) := rfl
def appE (e : Nat) (ei : Option TI) (kx : TK) (K : St → Prop) (d : Option Nat) (tm : List AV) (h : Hp) (s x : AV) : Prop := match ei with
  | some ei => match aDst ei.size s h, aSrc ei.size kx x h with
    | some (rs, ob), some xs =>
      (rs.length + xs.length) * ei.bytes ≤ 140737488355328 ∧ 0 < ei.size ∧ 0 < ei.bytes ∧
      match ob with
      | none => (xs = [] → K ⟨put tm d anil, h⟩) ∧ (xs ≠ [] → news K d tm h (fun b => .osl b ei.size 0 xs.length) ⟨ei.size, xs, some (e, 0)⟩)
      | some (b0, ty) => news K d tm (h.del b0) (fun b => .osl b ei.size 0 (rs.length + xs.length)) ⟨ei.size, rs ++ xs, keepTy e ty⟩
    | _, _ => False
  | none => False
theorem appT_some (t1 b1 : Nat) (z1 : List Value) (e : Nat) (q1 : Option (List (Nat × TK))) (tix : TI) (s x : AV) : appT (some ⟨t1, b1, z1, .sl e, q1⟩) (some tix) T K d tm h s x = appE e (T e) tix.kind K d tm h s x := rfl
def appR (e : Nat) (ei : TI) (K : St → Prop) (d : Option Nat) (tm : List AV) (h : Hp) (o : Option (List (List AV) × Option (Nat × Option (Nat × Nat)))) (xs : Option (List (List AV))) : Prop := match o, xs with
  | some (rs, ob), some xs =>
    (rs.length + xs.length) * ei.bytes ≤ 140737488355328 ∧ 0 < ei.size ∧ 0 < ei.bytes ∧
    match ob with
    | none => (xs = [] → K ⟨put tm d anil, h⟩) ∧ (xs ≠ [] → news K d tm h (fun b => .osl b ei.size 0 xs.length) ⟨ei.size, xs, some (e, 0)⟩)
    | some (b0, ty) => news K d tm (h.del b0) (fun b => .osl b ei.size 0 (rs.length + xs.length)) ⟨ei.size, rs ++ xs, keepTy e ty⟩
  | _, _ => False
theorem appE_some (e : Nat) (ei : TI) (kx : TK) (s x : AV) : appE e (some ei) kx K d tm h s x = appR e ei K d tm h (aDst ei.size s h) (aSrc ei.size kx x h) := rfl
theorem appR_nil (e : Nat) (ei : TI) (xs : List (List AV)) : appR e ei K d tm h (some ([], none)) (some xs) = (xs.length * ei.bytes ≤ 140737488355328 ∧ 0 < ei.size ∧ 0 < ei.bytes ∧ (xs = [] → K ⟨put tm d anil, h⟩) ∧ (xs ≠ [] → news K d tm h (fun b => .osl b ei.size 0 xs.length) ⟨ei.size, xs, some (e, 0)⟩)) := by
  simp only [appR, List.length_nil, Nat.zero_add]
theorem appR_one (e : Nat) (ei : TI) (x : List AV) : appR e ei K d tm h (some ([], none)) (some [x]) = (ei.bytes ≤ 140737488355328 ∧ 0 < ei.size ∧ 0 < ei.bytes ∧ news K d tm h (fun b => .osl b ei.size 0 1) ⟨ei.size, [x], some (e, 0)⟩) := by
  simp [appR]
theorem appR_some (e : Nat) (ei : TI) (rs : List (List AV)) (b0 : Nat) (ty : Option (Nat × Nat)) (xs : List (List AV)) : appR e ei K d tm h (some (rs, some (b0, ty))) (some xs) =
    ((rs.length + xs.length) * ei.bytes ≤ 140737488355328 ∧ 0 < ei.size ∧ 0 < ei.bytes ∧ news K d tm (h.del b0) (fun b => .osl b ei.size 0 (rs.length + xs.length)) ⟨ei.size, rs ++ xs, keepTy e ty⟩) := rfl

def litT (e : Nat) (o : Option TI) (K : St → Prop) (d : Option Nat) (tm : List AV) (h : Hp) (len : Nat) (ps : List (Nat × AV)) : Prop := match o with
  | some ei => 0 < ei.size ∧ len * ei.size ≤ 16777216 ∧ onSome (arows ei.size (List.replicate len (ei.zero.map .val)) ps) fun rows => news K d tm h (fun b => .osl b ei.size 0 len) ⟨ei.size, rows, some (e, 0)⟩
  | none => False
theorem litT_some (e : Nat) (ei : TI) (len : Nat) (ps : List (Nat × AV)) : litT e (some ei) K d tm h len ps = (0 < ei.size ∧ len * ei.size ≤ 16777216 ∧ onSome (arows ei.size (List.replicate len (ei.zero.map .val)) ps) fun rows => news K d tm h (fun b => .osl b ei.size 0 len) ⟨ei.size, rows, some (e, 0)⟩) := rfl
def litK (o : Option TI) (T : Tab) (K : St → Prop) (d : Option Nat) (tm : List AV) (h : Hp) (len : Nat) (ps : List (Nat × AV)) : Prop := match o with
  | some ti => match ti.kind with
    | .sl e => litT e (T e) K d tm h len ps
    | _ => False
  | none => False
theorem litK_some (t1 b1 : Nat) (z1 : List Value) (e len : Nat) (q1 : Option (List (Nat × TK))) (ps : List (Nat × AV)) : litK (some ⟨t1, b1, z1, .sl e, q1⟩) T K d tm h len ps = litT e (T e) K d tm h len ps := rfl
theorem one_buildSlice (t len : Nat) (ps : Array (Nat × Operand)) : one P T pu (.buildSlice t len ps) d K X ⟨tm, h⟩ = litK (T t) T K d tm h len (ps.toList.map fun p => (p.1, ev tm p.2)) := by
  simp only [one, aRes, litK]
  cases T t with
  | none => rfl
  | some ti =>
    simp only
    cases ti.kind <;> simp only
    rename_i e
    cases T e with
    | none => rfl
    | some ei =>
      simp only [litT, onSome, news]
      cases arows ei.size (List.replicate len (List.map AV.val ei.zero)) (List.map (fun p => (p.fst, ev tm p.snd)) ps.toList) <;> rfl

def makT (o : Option TI) (T : Tab) (K : St → Prop) (d : Option Nat) (tm : List AV) (h : Hp) (l c : AV) : Prop := match o, l, c with
  | some ti, .val (.int _ m), .val (.int _ n) => match ti.kind with
    | .sl e => match T e with
      | some ei => 0 < ei.size ∧ 0 ≤ m ∧ m ≤ n ∧ (ei.bytes : Int) * n ≤ 281474976710656 ∧ n ≤ 9223372036854775807 ∧ news K d tm h (fun b => .osl b ei.size 0 m.toNat) ⟨ei.size, List.replicate m.toNat (ei.zero.map .val), some (e, 0)⟩
      | none => False
    | _ => False
  | _, _, _ => False
def makE (e : Nat) (o : Option TI) (K : St → Prop) (d : Option Nat) (tm : List AV) (h : Hp) (m n : Int) : Prop := match o with
  | some ei => 0 < ei.size ∧ 0 ≤ m ∧ m ≤ n ∧ (ei.bytes : Int) * n ≤ 281474976710656 ∧ n ≤ 9223372036854775807 ∧ news K d tm h (fun b => .osl b ei.size 0 m.toNat) ⟨ei.size, List.replicate m.toNat (ei.zero.map .val), some (e, 0)⟩
  | none => False
theorem makE_some (e : Nat) (ei : TI) (m n : Int) : makE e (some ei) K d tm h m n = (0 < ei.size ∧ 0 ≤ m ∧ m ≤ n ∧ (ei.bytes : Int) * n ≤ 281474976710656 ∧ n ≤ 9223372036854775807 ∧ news K d tm h (fun b => .osl b ei.size 0 m.toNat) ⟨ei.size, List.replicate m.toNat (ei.zero.map .val), some (e, 0)⟩) := rfl
theorem makT_some (t1 b1 : Nat) (z1 : List Value) (e : Nat) (q1 : Option (List (Nat × TK))) (k1 k2 : IntKind) (m n : Int) : makT (some ⟨t1, b1, z1, .sl e, q1⟩) T K d tm h (.val (.int k1 m)) (.val (.int k2 n)) = makE e (T e) K d tm h m n := rfl
theorem one_makeSlice (t : Nat) (l c : Operand) : one P T pu (.makeSlice t l c) d K X ⟨tm, h⟩ = makT (T t) T K d tm h (ev tm l) (ev tm c) := rfl

def panT (X : AV → Hp → Prop) (h : Hp) (x : AV) : Prop := match x with | .ifc t y => X (.ifc t y) h | _ => False
theorem panT_ifc (t : Nat) (y : AV) : panT X h (.ifc t y) = X (.ifc t y) h := rfl
theorem one_panic (x : Operand) : one P T pu (.panic x) d K X ⟨tm, h⟩ = panT X h (ev tm x) := rfl

/-! operators -/
variable {kd : IntKind} {tk : TK} {a b : Int}
theorem abin_add : abin .add tk (.val (.int kd a)) (.val (.int kd b)) = some (.val (.int kd (kd.wrap (a + b)))) := by simp [abin]
theorem abin_sub : abin .sub tk (.val (.int kd a)) (.val (.int kd b)) = some (.val (.int kd (kd.wrap (a - b)))) := by simp [abin]
theorem abin_mul : abin .mul tk (.val (.int kd a)) (.val (.int kd b)) = some (.val (.int kd (kd.wrap (a * b)))) := by simp [abin]
theorem abin_quo : abin .quo tk (.val (.int kd a)) (.val (.int kd b)) = if b = 0 then none else some (.val (.int kd (kd.wrap (a.tdiv b)))) := by simp [abin]
theorem abin_rem : abin .rem tk (.val (.int kd a)) (.val (.int kd b)) = if b = 0 then none else some (.val (.int kd (a.tmod b))) := by simp [abin]
theorem abin_eql : abin .eql tk (.val (.int kd a)) (.val (.int kd b)) = some (.val (.bool (decide (a = b)))) := by simp [abin, abool]; rfl
theorem abin_neq : abin .neq tk (.val (.int kd a)) (.val (.int kd b)) = some (.val (.bool (decide (a ≠ b)))) := by
  simp [abin, abool]; by_cases h : a = b <;> simp [h]
theorem abin_lss : abin .lss tk (.val (.int kd a)) (.val (.int kd b)) = some (.val (.bool (decide (a < b)))) := by simp [abin, abool]
theorem abin_leq : abin .leq tk (.val (.int kd a)) (.val (.int kd b)) = some (.val (.bool (decide (a ≤ b)))) := by simp [abin, abool]
theorem abin_gtr : abin .gtr tk (.val (.int kd a)) (.val (.int kd b)) = some (.val (.bool (decide (b < a)))) := by simp [abin, abool]
theorem abin_geq : abin .geq tk (.val (.int kd a)) (.val (.int kd b)) = some (.val (.bool (decide (b ≤ a)))) := by simp [abin, abool]
def ishl (kd : IntKind) (a b : Int) : Int := kd.wrap (a * 2 ^ (min b.toNat kd.bits))
def ishr (kd : IntKind) (a b : Int) : Int := a.fdiv (2 ^ (min b.toNat kd.bits))
def iand (kd : IntKind) (a b : Int) : Int := kd.wrap (BitVec.ofInt kd.bits a &&& BitVec.ofInt kd.bits b).toNat
def ior (kd : IntKind) (a b : Int) : Int := kd.wrap (BitVec.ofInt kd.bits a ||| BitVec.ofInt kd.bits b).toNat
def ixor (kd : IntKind) (a b : Int) : Int := kd.wrap (BitVec.ofInt kd.bits a ^^^ BitVec.ofInt kd.bits b).toNat
def iandn (kd : IntKind) (a b : Int) : Int := kd.wrap (BitVec.ofInt kd.bits a &&& ~~~ BitVec.ofInt kd.bits b).toNat
theorem abin_shl {k2 : IntKind} : abin .shl tk (.val (.int kd a)) (.val (.int k2 b)) = if 0 ≤ b then some (.val (.int kd (ishl kd a b))) else none := rfl
theorem abin_shr {k2 : IntKind} : abin .shr tk (.val (.int kd a)) (.val (.int k2 b)) = if 0 ≤ b then some (.val (.int kd (ishr kd a b))) else none := rfl
theorem abin_and : abin .and tk (.val (.int kd a)) (.val (.int kd b)) = some (.val (.int kd (iand kd a b))) := by simp [abin, iand]
theorem abin_or : abin .or tk (.val (.int kd a)) (.val (.int kd b)) = some (.val (.int kd (ior kd a b))) := by simp [abin, ior]
theorem abin_xor : abin .xor tk (.val (.int kd a)) (.val (.int kd b)) = some (.val (.int kd (ixor kd a b))) := by simp [abin, ixor]
theorem abin_andNot : abin .andNot tk (.val (.int kd a)) (.val (.int kd b)) = some (.val (.int kd (iandn kd a b))) := by simp [abin, iandn]
variable {s1 s2 : ByteArray}
theorem abin_sadd : abin .add tk (.val (.string s1)) (.val (.string s2)) = if s1.size + s2.size ≤ 9223372036854775807 then some (.val (.string (s1 ++ s2))) else none := rfl
theorem list_beq_decide (l m : List UInt8) : (l == m) = decide (l = m) := by
  by_cases h : l = m <;> simp [h]
theorem bytes_eq_iff (s t : ByteArray) : s.toList = t.toList ↔ s = t := by
  constructor
  · intro h
    rw [ByteArray.toList_eq, ByteArray.toList_eq] at h
    cases s; cases t
    simp only at h
    congr 1
    exact Array.ext' h
  · rintro rfl; rfl
theorem abin_seql : abin .eql tk (.val (.string s1)) (.val (.string s2)) = some (.val (.bool (decide (s1 = s2)))) := by
  simp only [abin, abool, list_beq_decide]; congr 3; simp [bytes_eq_iff]
theorem abin_sneq : abin .neq tk (.val (.string s1)) (.val (.string s2)) = some (.val (.bool (decide (s1 ≠ s2)))) := by
  simp only [abin, abool, list_beq_decide]; congr 2; by_cases h : s1 = s2 <;> simp [bytes_eq_iff, h]
theorem abin_beql {p q : Bool} : abin .eql .bool (.val (.bool p)) (.val (.bool q)) = some (.val (.bool (p == q))) := rfl
theorem abin_bneq {p q : Bool} : abin .neq .bool (.val (.bool p)) (.val (.bool q)) = some (.val (.bool (!(p == q)))) := rfl
theorem aun_not {p : Bool} : aun .not (.val (.bool p)) = some (.val (.bool (!p))) := rfl
theorem aun_neg : aun .neg (.val (.int kd a)) = some (.val (.int kd (kd.wrap (0 - a)))) := rfl
theorem not_decide (p : Prop) [Decidable p] : (!decide p) = decide (¬ p) := by by_cases h : p <;> simp [h]

/-! what simp is not to look into -/
theorem awp_congr {ac : AC} {Q : AX → St → Prop} {s s' : St} (h : s = s') : awp P T ac Q s = awp P T ac Q s' := by rw [h]
theorem aOps_congr {os : List AO} {K : St → Prop} {X : List AV → AV → Hp → Prop} {s s' : St} (h : s = s') : aOps P T K X os s = aOps P T K X os s' := by rw [h]
theorem aPlan_congr {f : Nat → AO} {p : Plan} {K : St → Prop} {X : AV → Hp → Prop} {s s' : St} (h : s = s') : aPlan P T f K X p s = aPlan P T f K X p s' := by rw [h]
theorem planned_congr {o o' : AO} {K : St → Prop} {X : AV → Hp → Prop} {s s' : St} (ho : o = o') (h : s = s') : planned P T o K X s = planned P T o' K X s' := by rw [h, ho]
theorem one_congr {op : Op} {K : St → Prop} {X : AV → Hp → Prop} {s s' : St} (h : s = s') : one P T pu op d K X s = one P T pu op d K X s' := by rw [h]
theorem athen_congr {n : St → Prop} {Q : AX → St → Prop} {e : AX} {s s' : St} (h : s = s') : athen n Q e s = athen n Q e s' := by rw [h]
theorem ablock_congr {i : Nat} {Q : AX → St → Prop} {e : AX} {s s' : St} (h : s = s') : ablock i Q e s = ablock i Q e s' := by rw [h]
theorem retQ_congr {rs : List ResultVar} {Q : AE → Hp → Prop} {e : AX} {s s' : St} (h : s = s') : retQ T rs Q e s = retQ T rs Q e s' := by rw [h]
theorem goes_congr {o o' : Option AV} (h' : o = o') : goes K d tm h o = goes K d tm h o' := by rw [h']
theorem news_congr {f f' : Nat → AV} {o o' : Ob} (hf : f = f') (ho : o = o') : news K d tm h f o = news K d tm h f' o' := by rw [hf, ho]
theorem callF_congr {f f' : AV} {args args' : List AV} (hf : f = f') (ha : args = args') : callF P pu K X d tm h f args = callF P pu K X d tm h f' args' := by rw [hf, ha]
theorem pures_congr {n : Nat} {args args' : List AV} (ha : args = args') : pures P K d tm h n args = pures P K d tm h n args' := by rw [ha]
theorem calls_congr {n : Nat} {args args' : List AV} (ha : args = args') : calls P K X d tm h n args = calls P K X d tm h n args' := by rw [ha]
theorem allocT_congr {o o' : Option TI} {t : Nat} (e : o = o') : allocT o t K d tm h = allocT o' t K d tm h := by rw [e]
theorem boxT_congr {o o' : Option TI} {t : Nat} {x x' : AV} (e : o = o') (ex : x = x') : boxT o t K d tm h x = boxT o' t K d tm h x' := by rw [e, ex]
theorem storeP_congr {o o' : Option TI} {p p' x x' : AV} (e : o = o') (ep : p = p') (ex : x = x') : storeP o K d tm h p x = storeP o' K d tm h p' x' := by rw [e, ep, ex]
theorem storeT_congr {o o' : Option TI} {ob ob' : Option Ob} {b sz i c : Nat} {x : AV} (e : o = o') (ep : ob = ob') : storeT o K d tm h ob b sz i c x = storeT o' K d tm h ob' b sz i c x := by rw [e, ep]
theorem storeR_congr {ti : TI} {ob : Ob} {r r' : Option (List AV)} {b sz i c : Nat} {x : AV} (e : r = r') : storeR K d tm h ob r ti b sz i c x = storeR K d tm h ob r' ti b sz i c x := by rw [e]
theorem appT_congr {o o' q q' : Option TI} {s s' x x' : AV} (e : o = o') (e2 : q = q') (e3 : s = s') (e4 : x = x') : appT o q T K d tm h s x = appT o' q' T K d tm h s' x' := by rw [e, e2, e3, e4]
theorem appE_congr {e0 : Nat} {o o' : Option TI} {kx : TK} {s x : AV} (e : o = o') : appE e0 o kx K d tm h s x = appE e0 o' kx K d tm h s x := by rw [e]
theorem appR_congr {e0 : Nat} {ei : TI} {o o' : Option (List (List AV) × Option (Nat × Option (Nat × Nat)))} {q q' : Option (List (List AV))} (e : o = o') (e2 : q = q') : appR e0 ei K d tm h o q = appR e0 ei K d tm h o' q' := by rw [e, e2]
theorem litT_congr {e0 : Nat} {o o' : Option TI} {len : Nat} {ps ps' : List (Nat × AV)} (e : o = o') (e2 : ps = ps') : litT e0 o K d tm h len ps = litT e0 o' K d tm h len ps' := by rw [e, e2]
theorem litK_congr {o o' : Option TI} {len : Nat} {ps ps' : List (Nat × AV)} (e : o = o') (e2 : ps = ps') : litK o T K d tm h len ps = litK o' T K d tm h len ps' := by rw [e, e2]
theorem makT_congr {o o' : Option TI} {l l' c c' : AV} (e : o = o') (e2 : l = l') (e3 : c = c') : makT o T K d tm h l c = makT o' T K d tm h l' c' := by rw [e, e2, e3]
theorem makE_congr {e0 : Nat} {o o' : Option TI} {m n : Int} (e : o = o') : makE e0 o K d tm h m n = makE e0 o' K d tm h m n := by rw [e]
theorem onSome_congr {α : Type} {o o' : Option α} {f : α → Prop} (e : o = o') : onSome o f = onSome o' f := by rw [e]
end

theorem Hp.upd_none {h : Hp} {b k : Nat} {o : Ob} (e : h.upd b o k = none) : k ≠ b ∧ h k = none := by
  simp only [Hp.upd] at e
  split at e
  · cases e
  · rename_i hne; exact ⟨hne, e⟩
theorem Hp.del_none {h : Hp} {b k : Nat} (e : h.del b k = none) : k = b ∨ h k = none := by
  simp only [Hp.del] at e
  split at e
  · rename_i hk; exact .inl hk
  · exact .inr e
theorem Hp.sub.none2 {h0 h : Hp} (k : h0.sub h) {b b' : Nat} {o : Ob} (hb : h.upd b' o b = Option.none) : h0 b = Option.none := k.none (Hp.upd_none hb).2

theorem cells_val (v : Value) : AV.cells (.val v) = [.val v] := rfl
theorem cells_agg (l : List AV) : AV.cells (.agg l) = l := rfl
theorem okc_val (v : Value) : AV.okCells (.val v) = v.oneCell' := rfl
theorem okc_agg (l : List AV) : AV.okCells (.agg l) = true := rfl
theorem cells_isl (s : Nat) (r : List (List AV)) : AV.cells (.isl s r) = [.isl s r] := rfl
theorem okc_isl (s : Nat) (r : List (List AV)) : AV.okCells (.isl s r) = true := rfl
theorem cells_osl (b s o n : Nat) : AV.cells (.osl b s o n) = [.osl b s o n] := rfl
theorem okc_osl (b s o n : Nat) : AV.okCells (.osl b s o n) = true := rfl
theorem cells_iptr (r : List AV) (c : Nat) : AV.cells (.iptr r c) = [.iptr r c] := rfl
theorem okc_iptr (r : List AV) (c : Nat) : AV.okCells (.iptr r c) = true := rfl
theorem cells_optr (b s r c : Nat) : AV.cells (.optr b s r c) = [.optr b s r c] := rfl
theorem okc_optr (b s r c : Nat) : AV.okCells (.optr b s r c) = true := rfl
theorem cells_fn (f : Fn) (x y : List AV) : AV.cells (.fn f x y) = [.fn f x y] := rfl
theorem okc_fn (f : Fn) (x y : List AV) : AV.okCells (.fn f x y) = true := rfl
theorem cells_ifc (t : TypeId) (x : AV) : AV.cells (.ifc t x) = [.ifc t x] := rfl
theorem okc_ifc (t : TypeId) (x : AV) : AV.okCells (.ifc t x) = true := rfl
attribute [congr] gfork_congr awp_congr aOps_congr aPlan_congr planned_congr one_congr athen_congr ablock_congr retQ_congr goes_congr convK_congr textK_congr news_congr callF_congr pures_congr calls_congr allocT_congr boxT_congr storeP_congr storeT_congr storeR_congr appT_congr appE_congr appR_congr litT_congr litK_congr makT_congr makE_congr fork_congr onSome_congr nilK_congr clearK_congr

attribute [push_cast] awp_skip awp_reg awp_draw awp_seq awp_cond awp_block awp_exit awp_ret awp_scope athen_norm athen_exit athen_ret athen_pan ablock_norm ablock_exit ablock_ret ablock_pan
  onSome_some fork_true fork_false aOps_nil aOps_plain aOps_guard gfork_tt gfork_ff gfork_ft gfork_tf gfork_undef aPlan_done aPlan_op aPlan_both planned_plain planned_guard goes_some
  one_move one_assign one_pick one_binTmp one_binInt one_binBool one_binStr one_binPtr one_binFn one_binNil nilK_eql_osl nilK_neq_osl nilK_eql_nil nilK_neq_nil one_clear binT_some abin2_val abin2_osl abin2_isl abin2_optr abin2_iptr abin2_fn abin2_eql abin2_neq aeqs one_unOp one_fieldAddr one_field one_indexAddr one_index one_slice one_convert convK_some convK_none   one_extract tupAt_tup one_makeFunc one_build one_nilCheck one_len one_makeInterface
  one_binIfc binI_eql_nil binI_neq_nil binI_eql_ifc binI_neq_ifc binI_eql_eface binI_neq_eface one_typeAssert tasT_same tasT_nil zAgg_eq one_max one_min amax_int amin_int
  one_alloc allocT_some one_box boxT_some one_load one_pload pload_iptr aload_optr aload_iptr partT_some rowAt_some one_store  storeT_some storeR_some one_call callF_pure callF_call callF_yld
  one_append appT_some appE_some appR_some appR_one appR_nil one_buildSlice litK_some litT_some one_makeSlice makT_some makE_some one_panic panT_ifc chkNil ifcT
  abin_add abin_sub abin_mul abin_quo abin_rem abin_eql abin_neq abin_lss abin_leq abin_gtr abin_geq abin_shl abin_shr abin_and abin_or abin_xor abin_andNot abin_sadd abin_seql abin_sneq abin_beql abin_bneq aun_not aun_neg
  put ev constAV apart afield afieldAddr afieldOf atInt aindexAddr indexT_str abound  aconv  aplace aplaces afill buildT_struct arows   aResults resOne resAll
  cells_val cells_agg cells_isl cells_osl cells_iptr cells_optr cells_fn cells_ifc okc_val okc_agg okc_isl okc_osl okc_iptr okc_optr okc_fn okc_ifc Value.oneCell' TK.agg Hp.upd_same keepTy_same keepTy_none aint abyte abool astr anil
  List.getD_cons_zero List.getD_cons_succ List.set_cons_zero List.set_cons_succ List.getElem?_cons_zero List.getElem?_cons_succ List.drop_zero List.drop_succ_cons List.take_succ_cons List.take_zero List.map_cons List.map_nil
  List.toList_toArray List.getElem?_toArray
  List.cons_append List.nil_append List.append_nil List.length_cons List.length_nil List.length_map List.replicate_succ List.replicate_zero List.getElem?_map Option.map_some Option.map_none List.take_nil List.drop_nil
  if_true if_false Bool.false_eq_true decide_true decide_false true_and and_true false_and and_false Int.toNat_natCast not_true_eq_false not_false_eq_true Nat.add_zero Nat.zero_add List.all_cons List.all_nil Bool.and_true Bool.true_and Option.isSome_some
  Bool.not_true Bool.not_false ne_eq forall_const implies_true true_implies Bool.or_false Bool.false_or Bool.or_true Bool.true_or Int.natCast_nonneg

end Go.Proofs.YtggcmnoacplbkaaDoor.AM
