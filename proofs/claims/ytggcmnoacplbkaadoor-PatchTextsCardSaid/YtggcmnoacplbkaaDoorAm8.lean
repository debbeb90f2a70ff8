/- The abstract machine, part 8: a plan of orders stands for all orders. -/
import Derived.Test.YtggcmnoacplbkaaDoorAm7
namespace Go.Proofs.YtggcmnoacplbkaaDoor.AM
open Go
set_option linter.unusedVariables false
set_option linter.unusedSimpArgs false

section
variable {P : Program} {T : Tab}

theorem acalm_congr {op : Op} {ρ ρ' : Operand → AV} (h : ∀ x ∈ op.operands, ρ x = ρ' x) : acalm T op ρ = acalm T op ρ' := by
  have pairs : ∀ ps : Array (Nat × Operand), (∀ x ∈ ps.toList.map (·.2), ρ x = ρ' x) → (ps.toList.map fun p => (p.1, ρ p.2)) = (ps.toList.map fun p => (p.1, ρ' p.2)) := fun ps hp =>
    List.map_congr_left fun p hm => by rw [hp p.2 (List.mem_map.2 ⟨p, hm, rfl⟩)]
  have lst : ∀ xs : Array Operand, (∀ x ∈ xs, ρ x = ρ' x) → xs.toList.map ρ = xs.toList.map ρ' := fun xs hx =>
    List.map_congr_left fun x hm => hx x (by simpa using hm)
  cases op <;> simp only [Op.operands] at h <;> simp only [acalm]
  case build t ps => rw [pairs ps (by intro x hx; exact h x (by simpa using hx))]
  case makeFunc f first caps => rw [lst first fun x hx => h x (by simp [hx]), lst caps fun x hx => h x (by simp [hx])]
  case slice t x lo hi mx => cases lo <;> cases hi <;> cases mx <;> simp_all
  case typeAssert x xt t ok =>
    have : ρ x = ρ' x := h x (by simp)
    cases ok <;> first | rfl | (simp only [this])
  case call c =>
    obtain ⟨callee, args, tys⟩ := c
    cases callee <;> try rfl
    rename_i b
    simp only [Call.operands] at h
    have two : ∀ x y, args.toList = [x, y] → ρ x = ρ' x ∧ ρ y = ρ' y := fun x y e => by
      have m1 : x ∈ args := by have : x ∈ args.toList := by rw [e]; simp
                               simpa using this
      have m2 : y ∈ args := by have : y ∈ args.toList := by rw [e]; simp
                               simpa using this
      exact ⟨h x (by simp [m1]), h y (by simp [m2])⟩
    cases b <;> try rfl
    case max =>
      show (match args.toList with | [x, y] => amax (ρ x) (ρ y) | _ => none) = (match args.toList with | [x, y] => amax (ρ' x) (ρ' y) | _ => none)
      generalize args.toList = l at two
      match l, two with
      | [], _ => rfl
      | [_], _ => rfl
      | [x, y], two => simp only [(two x y rfl).1, (two x y rfl).2]
      | _ :: _ :: _ :: _, _ => rfl
    case min =>
      show (match args.toList with | [x, y] => amin (ρ x) (ρ y) | _ => none) = (match args.toList with | [x, y] => amin (ρ' x) (ρ' y) | _ => none)
      generalize args.toList = l at two
      match l, two with
      | [], _ => rfl
      | [_], _ => rfl
      | [x, y], two => simp only [(two x y rfl).1, (two x y rfl).2]
      | _ :: _ :: _ :: _, _ => rfl
    cases e : args[0]? with
    | none => simp only [e]
    | some x =>
      have : ρ x = ρ' x := h x (by simp; exact Array.mem_of_getElem? e)
      cases e2 : tys[0]? with
      | none => simp only [e, e2]
      | some t => simp only [e, e2, this]
  all_goals first | rfl | (simp_all; done)

theorem aRes_congr {pu : Bool} {op : Op} {ρ ρ' : Operand → AV} (h : ∀ x ∈ op.operands, ρ x = ρ' x) (hp : Hp) (k X : AV → Hp → Prop) : aRes P T pu op ρ hp k X = aRes P T pu op ρ' hp k X := by
  have pairs : ∀ ps : Array (Nat × Operand), (∀ x ∈ ps.toList.map (·.2), ρ x = ρ' x) → (ps.toList.map fun p => (p.1, ρ p.2)) = (ps.toList.map fun p => (p.1, ρ' p.2)) := fun ps hp =>
    List.map_congr_left fun p hm => by rw [hp p.2 (List.mem_map.2 ⟨p, hm, rfl⟩)]
  have lst : ∀ xs : Array Operand, (∀ x ∈ xs, ρ x = ρ' x) → xs.toList.map ρ = xs.toList.map ρ' := fun xs hx =>
    List.map_congr_left fun x hm => hx x (by simpa using hm)
  have calm : acalm T op ρ = acalm T op ρ' := acalm_congr h
  cases op <;> simp only [Op.operands] at h
  case buildSlice t n ps => simp only [aRes]; rw [pairs ps (by intro x hx; exact h x (by simpa using hx))]
  case makeMap t r => cases r <;> simp only [aRes, calm]
  case next x s => cases s <;> first | (simp only [aRes, calm]; done) | (simp only [aRes]; rw [h x (by simp)])
  case call c =>
    obtain ⟨callee, args, tys⟩ := c
    simp only [Call.operands] at h
    cases callee with
    | value f =>
      have hf : ρ f = ρ' f := h f (by simp)
      have ha := lst args fun x hx => h x (by simp [hx])
      simp only [aRes, hf, ha]
    | invoke r m => simp only [aRes, calm]
    | builtin b =>
      cases b <;> try (simp only [aRes, calm]; done)
      case clear =>
        simp only [aRes]
        split
        · rename_i x t e1 e2
          have m1 : x ∈ args := by have : x ∈ args.toList := by rw [e1]; simp
                                   simpa using this
          rw [h x (by simp [m1])]
        · rfl
      simp only [aRes]
      split
      · rename_i s x t tx e1 e2
        have m1 : s ∈ args := by have : s ∈ args.toList := by rw [e1]; simp
                                 simpa using this
        have m2 : x ∈ args := by have : x ∈ args.toList := by rw [e1]; simp
                                 simpa using this
        rw [h s (by simp [m1]), h x (by simp [m2])]
      · rfl
  all_goals first | (simp only [aRes, calm]; done) | (simp only [aRes]; simp_all; done) | (simp only [aRes]; simp only [h _ (by simp)])

theorem aAppend_mono {t tx : Nat} {s x : AV} {h : Hp} {k k' : AV → Hp → Prop} (hk : ∀ y h', k y h' → k' y h') (H : aAppend T t tx s x h k) : aAppend T t tx s x h k' := by
  have HK : ∃ _ : Unit, ∀ y h', k y h' → k' y h' := ⟨(), hk⟩
  clear hk
  unfold aAppend at *
  split at H <;> try exact H.elim
  split at H <;> try exact H.elim
  split at H <;> try exact H.elim
  split at H <;> try exact H.elim
  simp_all only
  obtain ⟨_, hk⟩ := HK
  refine ⟨trivial, trivial, trivial, ?_⟩
  have := H.2.2.2
  split at this
  · exact ⟨fun e => hk _ _ (this.1 e), fun e b hb => hk _ _ (this.2 e b hb)⟩
  · exact fun b hb => hk _ _ (this b hb)

theorem aClear_mono {t : Nat} {x : AV} {h : Hp} {k k' : AV → Hp → Prop} (hk : ∀ y h', k y h' → k' y h') (H : aClear T t x h k) : aClear T t x h k' := by
  unfold aClear at *
  split at H <;> try exact H.elim
  split at H <;> try exact H.elim
  · split at H <;> try exact H.elim
    exact ⟨H.1, H.2.1, H.2.2.1, hk _ _ H.2.2.2⟩
  · exact hk _ _ H
  · exact hk _ _ H
theorem aBytes_mono {s d : Nat} {x : AV} {h : Hp} {k k' : AV → Hp → Prop} (hk : ∀ y h', k y h' → k' y h') (H : aBytes T s d x h k) : aBytes T s d x h k' := by
  unfold aBytes at *
  split at H <;> try exact H.elim
  split at H <;> try exact H.elim
  split at H <;> try exact H.elim
  exact ⟨H.1, H.2.1, fun b hb => hk _ _ (H.2.2 b hb)⟩
theorem aLook_mono {t : Nat} {x i : AV} {ok : Bool} {h : Hp} {k k' : AV → Hp → Prop} (hk : ∀ y h', k y h' → k' y h') (H : aLook T t x i ok h k) : aLook T t x i ok h k' := by
  unfold aLook at *
  split at H <;> try exact H.elim
  split at H <;> try exact H.elim
  split at H <;> try exact H.elim
  refine ⟨H.1, ?_⟩
  have := H.2
  split at this <;> try exact this.elim
  split at this <;> first | exact this.elim | exact hk _ _ this
theorem aUpd_mono {t : Nat} {x i v : AV} {h : Hp} {k k' : AV → Hp → Prop} (hk : ∀ y h', k y h' → k' y h') (H : aUpd T t x i v h k) : aUpd T t x i v h k' := by
  unfold aUpd at *
  split at H <;> try exact H.elim
  split at H <;> try exact H.elim
  split at H <;> try exact H.elim
  refine ⟨H.1, ?_⟩
  have := H.2
  split at this <;> first | exact this.elim | exact hk _ _ this
theorem aRange_mono {t : Nat} {x : AV} {h : Hp} {k k' : AV → Hp → Prop} (hk : ∀ y h', k y h' → k' y h') (H : aRange T t x h k) : aRange T t x h k' := by
  unfold aRange at *
  split at H <;> try exact H.elim
  split at H <;> try exact H.elim
  split at H <;> try exact H.elim
  exact fun r hr => hk _ _ (H r hr)
theorem aNext_mono {x : AV} {h : Hp} {k k' : AV → Hp → Prop} (hk : ∀ y h', k y h' → k' y h') (H : aNext x h k) : aNext x h k' := by
  unfold aNext at *
  split at H <;> try exact H.elim
  exact ⟨fun e => hk _ _ (H.1 e), fun i hi p hp => hk _ _ (H.2 i hi p hp)⟩
theorem aEntry_mono {x : AV} {h : Hp} {k k' : AV → Hp → Prop} (hk : ∀ y h', k y h' → k' y h') (H : aEntry x h k) : aEntry x h k' := by
  unfold aEntry at *
  split at H <;> try exact H.elim
  split at H <;> try exact H.elim
  split at H <;> first | exact H.elim | exact hk _ _ H
theorem nilCmp_mono {op : BinOp} {t : Nat} {x : AV} {y : Operand} {h : Hp} {k k' : AV → Hp → Prop} (hk : ∀ y h', k y h' → k' y h') (H : nilCmp T op t x y h k) : nilCmp T op t x y h k' := by
  unfold nilCmp at *
  split at H <;> try exact H.elim
  split at H <;> try exact H.elim
  all_goals exact ⟨fun e => hk _ _ (H.1 e), hk _ _ H.2⟩

theorem aRes_mono {pu : Bool} {op : Op} {ρ : Operand → AV} {h : Hp} {k k' X X' : AV → Hp → Prop} (hk : ∀ y h', k y h' → k' y h') (hX : ∀ y h', X y h' → X' y h') (H : aRes P T pu op ρ h k X) : aRes P T pu op ρ h k' X' := by
  have HK : ∃ _ : Unit, ∀ y h', k y h' → k' y h' := ⟨(), hk⟩
  have HX : ∃ _ : Unit, ∀ y h', X y h' → X' y h' := ⟨(), hX⟩
  clear hk hX
  unfold aRes at *
  split at H
  · split at H <;> try exact H.elim
    try simp_all only
    obtain ⟨_, hk⟩ := HK
    exact fun b hb => hk _ _ (H b hb)
  · split at H <;> try exact H.elim
    try simp_all only
    obtain ⟨_, hk⟩ := HK
    exact ⟨trivial, trivial, fun b hb => hk _ _ (H.2.2 b hb)⟩
  · split at H
    · split at H <;> try exact H.elim
      split at H <;> try exact H.elim
      split at H <;> try exact H.elim
      try simp_all only
      obtain ⟨_, hk⟩ := HK
      refine ⟨trivial, ?_⟩
      have := H.2
      split at this
      · exact hk _ _ this
      · exact this.elim
    · obtain ⟨_, hk⟩ := HK
      split at H
      · exact hk _ _ H
      · exact H.elim
  · split at H <;> try exact H.elim
    split at H <;> try exact H.elim
    split at H <;> try exact H.elim
    try simp_all only
    obtain ⟨_, hk⟩ := HK
    exact ⟨trivial, trivial, trivial, trivial, hk _ _ H.2.2.2.2⟩
  · split at H <;> try exact H.elim
    split at H <;> try exact H.elim
    split at H <;> try exact H.elim
    try simp_all only
    obtain ⟨_, hk⟩ := HK
    refine ⟨trivial, trivial, ?_⟩
    have := H.2.2
    split at this
    · exact fun b hb => hk _ _ (this b hb)
    · exact this.elim
  · split at H <;> try exact H.elim
    split at H <;> try exact H.elim
    split at H <;> try exact H.elim
    try simp_all only
    obtain ⟨_, hk⟩ := HK
    exact ⟨trivial, trivial, trivial, trivial, trivial, fun b hb => hk _ _ (H.2.2.2.2.2 b hb)⟩
  · split at H <;> try exact H.elim
    obtain ⟨_, hk⟩ := HK
    exact aAppend_mono hk H
  · obtain ⟨_, hk⟩ := HK
    obtain ⟨_, hX⟩ := HX
    split at H <;> try exact H.elim
    rotate_left
    · split at H
      · exact H.elim
      · rename_i e
        rw [if_neg e]
        exact H.mono hk
    split at H
    · rename_i e
      rw [if_pos e]
      obtain ⟨x, a, b⟩ := H
      exact ⟨x, a, hk _ _ b⟩
    · rename_i e
      rw [if_neg e]
      refine H.mono fun e h' q => ?_
      cases e with
      | ret x => exact hk _ _ q
      | pan x => exact hX _ _ q
  · obtain ⟨_, hX⟩ := HX
    split at H <;> try exact H.elim
    exact hX _ _ H
  · obtain ⟨_, hk⟩ := HK
    split at H <;> try exact H.elim
    exact aClear_mono hk H
  · obtain ⟨_, hk⟩ := HK
    split at H <;> try exact H.elim
    split at H <;> try exact H.elim
    exact fun b hb => hk _ _ (H b hb)
  · obtain ⟨_, hk⟩ := HK; exact aLook_mono hk H
  · obtain ⟨_, hk⟩ := HK; exact aUpd_mono hk H
  · obtain ⟨_, hk⟩ := HK; exact aRange_mono hk H
  · obtain ⟨_, hk⟩ := HK; exact aNext_mono hk H
  · obtain ⟨_, hk⟩ := HK; exact aEntry_mono hk H
  · obtain ⟨_, hk⟩ := HK
    split at H
    · exact hk _ _ H
    · exact nilCmp_mono hk H
  · obtain ⟨_, hk⟩ := HK
    split at H
    · exact hk _ _ H
    · split at H
      · exact hk _ _ H
      · exact aBytes_mono hk H
  · obtain ⟨_, hk⟩ := HK
    split at H
    · exact hk _ _ H
    · exact H.elim

/-! ### what may go first -/
theorem aOp_eq (o : AO) (K : St → Prop) (X : AV → Hp → Prop) (s : St) : aOp P T o K X s = (match gw o s.tm with
    | some true => aRun P T o K X s
    | some false => K ⟨put s.tm o.dst (.val undef), s.h⟩
    | none => False) := rfl

def AO.looks (o : AO) : List Nat :=
  (o.op.operands.toList.filterMap fun | .tmp t => some t | _ => none) ++ (match o.guard with
    | some (some t, _) => [t]
    | _ => [])

theorem ev_put {tm : List AV} {d : Option Nat} {y : AV} {x : Operand} (h : ∀ t, x = .tmp t → d ≠ some t) : ev (put tm d y) x = ev tm x := by
  cases d with
  | none => rfl
  | some d =>
    cases x with
    | tmp t =>
      have : d ≠ t := fun e => h t rfl (by rw [e])
      simp [ev, put, List.getD, List.getElem?_set, this]
    | _ => rfl

theorem looks_op {o : AO} {d : Option Nat} (h : ∀ t, d = some t → t ∉ o.looks) : ∀ x ∈ o.op.operands, ∀ t, x = .tmp t → d ≠ some t := by
  intro x hx t e hd
  subst e
  exact h t hd (List.mem_append_left _ (List.mem_filterMap.2 ⟨.tmp t, by simpa using hx, rfl⟩))

theorem gw_put {o : AO} {tm : List AV} {d : Option Nat} {y : AV} (h : ∀ t, d = some t → t ∉ o.looks) : gw o (put tm d y) = gw o tm := by
  unfold gw
  split
  · rfl
  · rename_i t want hg
    have : d ≠ some t := fun e => h t e (by simp [AO.looks, hg])
    have := ev_put (tm := tm) (y := y) (x := .tmp t) (d := d) (fun t' e => by cases e; exact this)
    simp only [ev] at this
    rw [this]
  · rfl

theorem put_comm {tm : List AV} {d e : Option Nat} {x y : AV} (h : ∀ t, d = some t → e ≠ some t) : put (put tm d x) e y = put (put tm e y) d x := by
  cases d with
  | none => rfl
  | some d =>
    cases e with
    | none => rfl
    | some e =>
      have : d ≠ e := fun q => h d rfl (by rw [q])
      simp only [put]
      exact List.set_comm _ _ this

/-- o comes to x, whatever the memory (c), or in any memory in which all stands that stands in this one. -/
def Yl (P : Program) (T : Tab) (c : Bool) (o : AO) (x : AV) (s : St) : Prop :=
  (gw o s.tm = some true ∧ ∀ h', (c = true ∨ s.h.sub h') → ∀ k X, k x h' → aRes P T o.pure o.op (ev s.tm) h' k X) ∨ (gw o s.tm = some false ∧ x = .val undef)

theorem Yl.op {c : Bool} {o : AO} {x : AV} {s : St} (h : Yl P T c o x s) {K : St → Prop} {X : AV → Hp → Prop} (hk : K ⟨put s.tm o.dst x, s.h⟩) : aOp P T o K X s := by
  rw [aOp_eq]
  rcases h with ⟨h1, h2⟩ | ⟨h1, rfl⟩
  · rw [h1]; exact h2 s.h (.inr (Hp.sub.refl _)) _ _ hk
  · rw [h1]; exact hk

theorem Yl.keep {c : Bool} {o : AO} {x : AV} {s : St} (h : Yl P T c o x s) {d : Option Nat} {y : AV} (hd : ∀ t, d = some t → t ∉ o.looks) {h' : Hp} (hh : c = true ∨ s.h.sub h') : Yl P T c o x ⟨put s.tm d y, h'⟩ := by
  rcases h with ⟨h1, h2⟩ | ⟨h1, rfl⟩
  · refine .inl ⟨by rw [← h1]; exact gw_put hd, fun h2' hc k X hk => ?_⟩
    have := h2 h2' (by
      rcases hc with e | e
      · exact .inl e
      · rcases hh with q | q
        · exact .inl q
        · exact .inr (q.trans e)) k X hk
    rwa [aRes_congr (ρ' := ev (put s.tm d y)) (fun z hz => (ev_put (looks_op hd z hz)).symm)] at this
  · exact .inr ⟨by rw [← h1]; exact gw_put hd, rfl⟩

theorem calm_aRes {op : Op} (h : calmOp op = true) (pu : Bool) (ρ : Operand → AV) (hp : Hp) (k X : AV → Hp → Prop) : aRes P T pu op ρ hp k X = (match acalm T op ρ with | some x => k x hp | none => False) := by
  cases op <;> first | rfl | (simp only [calmOp, Bool.false_eq_true] at h; done) | skip
  · rename_i op t x y yt
    simp only [calmOp, Bool.not_eq_true'] at h
    simp only [aRes]
    split
    · rename_i z e; rw [e]
    · rename_i e
      rw [e]
      unfold nilCmp
      split <;> try rfl
      split <;> first | rfl | (simp [nilConst] at h)
  · rename_i c
    obtain ⟨callee, args, tys⟩ := c
    cases callee <;> first | (simp only [calmOp, Bool.false_eq_true] at h; done) | skip
    rename_i b
    cases b <;> first | rfl | (simp only [calmOp, Bool.false_eq_true] at h; done)

def clsOK (c : Bool) (o : AO) : Prop := if c then calmOp o.op = true ∨ ((isCall o.op || isLoad o.op) = true ∧ o.pure = true) else isLoad o.op = true

theorem first_yields {c : Bool} {o : AO} (hc : clsOK c o) {K : St → Prop} {X : AV → Hp → Prop} {s : St} (h : aOp P T o K X s) : ∃ x, Yl P T c o x s ∧ K ⟨put s.tm o.dst x, s.h⟩ := by
  rw [aOp_eq] at h
  cases hg : gw o s.tm with
  | none => rw [hg] at h; exact h.elim
  | some b =>
    rw [hg] at h
    cases b with
    | false => exact ⟨.val undef, .inr ⟨hg, rfl⟩, h⟩
    | true =>
      simp only [aRun] at h
      cases c with
      | true =>
        rcases hc with hc | ⟨hc, hpu⟩
        · rw [calm_aRes hc] at h
          split at h <;> try exact h.elim
          rename_i x hx
          refine ⟨x, .inl ⟨hg, fun h' _ k X hk => ?_⟩, h⟩
          rw [calm_aRes hc, hx]; exact hk
        · obtain ⟨dst, op, guard, pu⟩ := o
          simp only at hpu hc h ⊢
          subst hpu
          cases op <;> simp only [isCall, isLoad, Bool.or_self, Bool.or_true, Bool.or_false, Bool.false_eq_true] at hc
          case load t p =>
            simp only [aRes, if_true] at h
            split at h
            · exact h.elim
            · rename_i hno
              split at h <;> try exact h.elim
              rename_i z hz
              refine ⟨z, .inl ⟨hg, fun h' hh k X hk => ?_⟩, h⟩
              simp only [aRes, hz]
              exact hk
          rename_i cl
          obtain ⟨callee, args, tys⟩ := cl
          cases callee <;> simp only [Bool.false_eq_true] at hc
          rename_i f
          simp only [aRes, if_true] at h
          split at h <;> try exact h.elim
          rename_i n first caps hf
          obtain ⟨x, hp, hk⟩ := h
          refine ⟨x, .inl ⟨hg, fun h' _ k X hk => ?_⟩, hk⟩
          simp only [aRes, if_true]
          rw [hf]
          exact ⟨x, hp, hk⟩
      | false =>
        have hc' : isLoad o.op = true := hc
        obtain ⟨dst, op, guard, pu⟩ := o
        simp only at hc' h ⊢
        cases op <;> simp only [isLoad, Bool.false_eq_true] at hc'
        rename_i t p
        simp only [aRes] at h
        split at h
        · rename_i b sz i cc hq
          split at h <;> try exact h.elim
          rename_i hpf
          split at h <;> try exact h.elim
          rename_i ti ob hti hob
          split at h <;> try exact h.elim
          rename_i r hrow
          obtain ⟨hsz, h⟩ := h
          split at h <;> try exact h.elim
          rename_i y hy
          refine ⟨y, .inl ⟨hg, fun h' hh k X hk => ?_⟩, h⟩
          have hsub : s.h.sub h' := hh.resolve_left (by simp)
          simp only [aRes]
          rw [hq]
          simp only [hti, hsub _ _ hob, hrow, hy, if_neg hpf]
          exact ⟨hsz, hk⟩
        · rename_i hno
          split at h <;> try exact h.elim
          rename_i z hz
          refine ⟨z, .inl ⟨hg, fun h' hh k X hk => ?_⟩, h⟩
          simp only [aRes, hz]
          exact hk

theorem aRes_sub {pu : Bool} {op : Op} (hm : monoOp op = true ∨ (isCall op = true ∧ pu = true)) {ρ : Operand → AV} {h : Hp} {k X : AV → Hp → Prop} (H : aRes P T pu op ρ h k X) : aRes P T pu op ρ h (fun y h' => h.sub h' ∧ k y h') X := by
  have new : ∀ (b : Nat) (o : Ob), h b = none → h.sub (h.upd b o) := fun b o hb => (Hp.sub.refl h).upd o hb
  rcases hm with hm | ⟨hc, rfl⟩
  · by_cases hcalm : calmOp op = true
    · rw [calm_aRes hcalm] at H ⊢
      split at H <;> try exact H.elim
      exact ⟨Hp.sub.refl _, H⟩
    · cases op <;> simp only [monoOp] at hm <;> try exact absurd hm hcalm
      case binOp op t x y yt =>
        simp only [aRes] at H ⊢
        split at H
        · exact ⟨Hp.sub.refl _, H⟩
        · unfold nilCmp at *
          split at H <;> try exact H.elim
          split at H <;> try exact H.elim
          all_goals exact ⟨fun e => ⟨Hp.sub.refl _, H.1 e⟩, Hp.sub.refl _, H.2⟩
      case convert s d x =>
        simp only [aRes] at H ⊢
        split at H
        · exact ⟨Hp.sub.refl _, H⟩
        · split at H
          · exact ⟨Hp.sub.refl _, H⟩
          · unfold aBytes at *
            split at H <;> try exact H.elim
            split at H <;> try exact H.elim
            split at H <;> try exact H.elim
            exact ⟨H.1, H.2.1, fun b hb => ⟨new b _ hb, H.2.2 b hb⟩⟩
      case alloc t =>
        simp only [aRes] at H ⊢
        split at H <;> try exact H.elim
        exact fun b hb => ⟨new b _ hb, H b hb⟩
      case box t x =>
        simp only [aRes] at H ⊢
        split at H <;> try exact H.elim
        exact ⟨H.1, H.2.1, fun b hb => ⟨new b _ hb, H.2.2 b hb⟩⟩
      case buildSlice t n ps =>
        simp only [aRes] at H ⊢
        split at H <;> try exact H.elim
        split at H <;> try exact H.elim
        split at H <;> try exact H.elim
        refine ⟨H.1, H.2.1, ?_⟩
        have := H.2.2
        split at this <;> try exact this.elim
        exact fun b hb => ⟨new b _ hb, this b hb⟩
      case load t x =>
        simp only [aRes] at H ⊢
        split at H
        · split at H <;> try exact H.elim
          rename_i hpf
          rw [if_neg hpf]
          split at H <;> try exact H.elim
          split at H <;> try exact H.elim
          refine ⟨H.1, ?_⟩
          have := H.2
          split at this <;> try exact this.elim
          exact ⟨Hp.sub.refl _, this⟩
        · split at H <;> try exact H.elim
          exact ⟨Hp.sub.refl _, H⟩
      case makeSlice t l c =>
        simp only [aRes] at H ⊢
        split at H <;> try exact H.elim
        split at H <;> try exact H.elim
        split at H <;> try exact H.elim
        exact ⟨H.1, H.2.1, H.2.2.1, H.2.2.2.1, H.2.2.2.2.1, fun b hb => ⟨new b _ hb, H.2.2.2.2.2 b hb⟩⟩
  · cases op <;> simp only [isCall, Bool.false_eq_true] at hc
    rename_i cl
    obtain ⟨callee, args, tys⟩ := cl
    cases callee <;> simp only [Bool.false_eq_true] at hc
    simp only [aRes, if_true] at H ⊢
    split at H <;> try exact H.elim
    obtain ⟨x, hp, hk⟩ := H
    exact ⟨x, hp, Hp.sub.refl _, hk⟩

theorem aOp_commute {c : Bool} {oi oj : AO} {x : AV} {s : St} (hy : Yl P T c oi x s) (h1 : ∀ t, oi.dst = some t → t ∉ oj.looks) (h2 : ∀ t, oi.dst = some t → oj.dst ≠ some t) (h3 : ∀ t, oj.dst = some t → t ∉ oi.looks)
    (hm : c = true ∨ monoOp oj.op = true ∨ (isCall oj.op = true ∧ oj.pure = true)) {K : St → Prop} {X : AV → Hp → Prop} (h : aOp P T oj K X ⟨put s.tm oi.dst x, s.h⟩) :
    aOp P T oj (fun s' => Yl P T c oi x s' ∧ K ⟨put s'.tm oi.dst x, s'.h⟩) X s := by
  rw [aOp_eq] at h ⊢
  simp only at h
  rw [gw_put h1] at h
  cases hg : gw oj s.tm with
  | none => rw [hg] at h; exact h.elim
  | some b =>
    rw [hg] at h
    cases b with
    | false =>
      simp only at h ⊢
      exact ⟨hy.keep h3 (.inr (Hp.sub.refl _)), by rw [← put_comm h2]; exact h⟩
    | true =>
      simp only [aRun] at h ⊢
      rw [aRes_congr (ρ' := ev s.tm) (fun z hz => ev_put (looks_op h1 z hz))] at h
      rcases hm with hc | hm
      · exact aRes_mono (fun y h' hk => ⟨hy.keep h3 (.inl hc), by rw [← put_comm h2]; exact hk⟩) (fun _ _ q => q) h
      · exact aRes_mono (fun y h' hk => ⟨hy.keep h3 (.inr hk.1), by rw [← put_comm h2]; exact hk.2⟩) (fun _ _ q => q) (aRes_sub hm h)

theorem sl_looks (ops : Array Oper) (pu : List Nat) {i : Nat} {o : Oper} (h : ops[i]? = some o) : (sl ops pu i).looks = o.looksAt ops := by
  simp only [sl, h, slimO, AO.looks, Oper.looksAt]
  congr 1
  cases o.guard with
  | none => rfl
  | some gq =>
    obtain ⟨j, want⟩ := gq
    simp only [slimGuard]
    cases (ops[j]?).bind (·.dst) <;> rfl

theorem waits_spec {ops : Array Oper} {listed : Array Bool} {i n : Nat} {acc : List Nat} (h : waits ops listed i acc n = true) : listed.getD n true = false ∧ n ≠ i ∧ ∃ oj, ops[n]? = some oj ∧ ∃ e ∈ oj.after, Region.binds .any e = true ∧ (e.on = i ∨ e.on ∈ acc) := by
  simp only [waits, Bool.and_eq_true, Bool.not_eq_true', bne_iff_ne, ne_eq] at h
  obtain ⟨⟨h1, h2⟩, h3⟩ := h
  refine ⟨h1, h2, ?_⟩
  split at h3
  · rename_i o ho
    obtain ⟨e, he, hb⟩ := Array.any_eq_true'.1 h3
    simp only [Bool.and_eq_true, Bool.or_eq_true, beq_iff_eq, List.contains_iff_mem] at hb
    exact ⟨o, ho, e, he, hb.1, hb.2⟩
  · cases h3
theorem descs_sub {ops : Array Oper} {listed : Array Bool} {i n k : Nat} (h : k ∈ descs ops listed i n) : k ∈ descs ops listed i (n + 1) := by
  simp only [descs]; split
  · exact List.mem_cons_of_mem _ h
  · exact h
theorem descs_spec {ops : Array Oper} {listed : Array Bool} {i : Nat} : ∀ (n : Nat), ∀ j ∈ descs ops listed i n, listed.getD j true = false ∧ j ≠ i ∧ ∃ oj, ops[j]? = some oj ∧ ∃ e ∈ oj.after, Region.binds .any e = true ∧ (e.on = i ∨ e.on ∈ descs ops listed i n)
  | 0, j, h => by simp [descs] at h
  | n + 1, j, h => by
    have old : j ∈ descs ops listed i n → listed.getD j true = false ∧ j ≠ i ∧ ∃ oj, ops[j]? = some oj ∧ ∃ e ∈ oj.after, Region.binds .any e = true ∧ (e.on = i ∨ e.on ∈ descs ops listed i (n + 1)) := by
      intro hj
      obtain ⟨a, b, oj, c, e, d1, d2, d3⟩ := descs_spec n j hj
      exact ⟨a, b, oj, c, e, d1, d2, d3.imp id descs_sub⟩
    simp only [descs] at h
    split at h
    · rename_i hc
      rcases List.mem_cons.1 h with rfl | h
      · obtain ⟨a, b, oj, c, e, d1, d2, d3⟩ := waits_spec hc
        exact ⟨a, b, oj, c, e, d1, d2, d3.imp id descs_sub⟩
      · exact old h
    · exact old h

theorem aAny_first {ops : Array Oper} {pu : List Nat} {K : St → Prop} {X : AV → Hp → Prop} {c : Bool} {i : Nat} {oi : Oper} (hi : ops[i]? = some oi) {L : List Nat} (hL : ∀ j ∈ L, ∃ oj, ops[j]? = some oj ∧ ∃ e ∈ oj.after, Region.binds .any e = true ∧ (e.on = i ∨ e.on ∈ L)) :
    ∀ (fuel : Nat) (listed : Array Bool) (s : St) (x : AV), (∀ j ∈ L, listed.getD j true = false) →
      (∀ j oj, ops[j]? = some oj → j ≠ i → listed.getD j true = false → j ∉ L → (∀ e ∈ oj.after, Region.binds .any e = true → e.on ≠ i) → oi.apart ops oj = true ∧ (c = true ∨ monoOp oj.op = true ∨ (isCall oj.op = true ∧ pu.contains j = true))) →
      i ∈ Region.ready .any ops listed → Yl P T c (sl ops pu i) x s →
      aAny P T ops pu K X fuel (listed.setIfInBounds i true) ⟨put s.tm oi.dst x, s.h⟩ → aAny P T ops pu K X (fuel + 1) listed s := by
  have hdi : (sl ops pu i).dst = oi.dst := by simp [sl, hi, slimO]
  intro fuel
  induction fuel with
  | zero =>
    intro listed s x _ _ hr hy H
    refine ⟨fun h => (by rw [h] at hr; cases hr), fun j hj => ?_⟩
    by_cases hji : j = i
    · subst hji; exact hy.op (by rw [hdi]; exact H)
    · have := ready_mono hj hji
      rw [H.1] at this
      cases this
  | succ fuel ih =>
    intro listed s x hun0 hfree hr hy H
    refine ⟨fun h => (by rw [h] at hr; cases hr), fun j hj => ?_⟩
    by_cases hji : j = i
    · subst hji; exact hy.op (by rw [hdi]; exact H)
    · have h1 := H.2 j (ready_mono hj hji)
      obtain ⟨hjun, oj, hoj, hall⟩ := mem_ready.1 hj
      have hdj : (sl ops pu j).dst = oj.dst := by simp [sl, hoj, slimO]
      have hoj' : (sl ops pu j).op = oj.op := by simp [sl, hoj, slimO]
      have hpj : (sl ops pu j).pure = pu.contains j := by simp [sl, hoj, slimO]
      have hnot : ∀ e ∈ oj.after, Region.binds .any e = true → e.on ≠ i := fun e he hb heq => by
        have h1 := hall e he hb
        have h0 := (mem_ready.1 hr).1
        rw [heq] at h1
        rcases Nat.lt_or_ge i listed.size with h' | h'
        · simp [h'] at h0 h1; rw [h0] at h1; cases h1
        · simp [Array.getElem?_eq_none h'] at h1
      have hjL : j ∉ L := fun hjL => by
        obtain ⟨oj', hoj', e, he, hb, hcase⟩ := hL j hjL
        rw [hoj] at hoj'; cases hoj'
        rcases hcase with q | q
        · exact hnot e he hb q
        · have h1 := hall e he hb
          have h0 := hun0 _ q
          rcases Nat.lt_or_ge e.on listed.size with h' | h'
          · simp [h'] at h0 h1; rw [h0] at h1; cases h1
          · simp [Array.getElem?_eq_none h'] at h1
      obtain ⟨hap, hm⟩ := hfree j oj hoj hji hjun hjL hnot
      obtain ⟨a1, a2, a3⟩ := Oper.apart_spec hap
      have h2 := aOp_commute (oi := sl ops pu i) (oj := sl ops pu j) (X := X) hy (by rw [hdi, sl_looks ops pu hoj]; exact a1) (by rw [hdi, hdj]; exact a2) (by rw [hdj, sl_looks ops pu hi]; exact a3)
        (by rw [hoj', hpj]; exact hm) (by rw [hdi]; exact h1)
      have hfree' : ∀ k ok, ops[k]? = some ok → k ≠ i → (listed.setIfInBounds j true).getD k true = false → k ∉ L →
          (∀ e ∈ ok.after, Region.binds .any e = true → e.on ≠ i) → oi.apart ops ok = true ∧ (c = true ∨ monoOp ok.op = true ∨ (isCall ok.op = true ∧ pu.contains k = true)) := fun k ok hk hki hun hkL hno => by
        refine hfree k ok hk hki ?_ hkL hno
        by_cases hjk : j = k
        · subst hjk; exact hjun
        · rw [getD_set_ne true hjk] at hun; exact hun
      have mono : ∀ {o : AO} {K K' : St → Prop} {s : St}, (∀ s, K s → K' s) → aOp P T o K X s → aOp P T o K' X s := by
        intro o K K' s hk q
        rw [aOp_eq] at q ⊢
        split at q
        · exact aRes_mono (fun y h' z => hk _ z) (fun _ _ z => z) q
        · exact hk _ q
        · exact q
      refine mono (fun s' h3 => ih (listed.setIfInBounds j true) s' x (fun k hk => by rw [getD_set_ne true (show j ≠ k from fun q => hjL (by rw [q]; exact hk))]; exact hun0 k hk) hfree' (ready_mono hr (Ne.symm hji)) h3.1 ?_) h2
      rw [Array.setIfInBounds_comm _ _ hji]
      rw [← hdi]
      exact h3.2

theorem aOp_mono {o : AO} {K K' : St → Prop} {X : AV → Hp → Prop} {s : St} (hk : ∀ s, K s → K' s) (q : aOp P T o K X s) : aOp P T o K' X s := by
  rw [aOp_eq] at q ⊢
  split at q
  · exact aRes_mono (fun y h' z => hk _ z) (fun _ _ z => z) q
  · exact hk _ q
  · exact q

theorem aAny_more {ops : Array Oper} {pu : List Nat} {K : St → Prop} {X : AV → Hp → Prop} : ∀ (n : Nat) (listed : Array Bool) (s : St), aAny P T ops pu K X n listed s → aAny P T ops pu K X (n + 1) listed s
  | 0, listed, s, h => ⟨fun _ => h.2, by rw [h.1]; simp⟩
  | n + 1, listed, s, h => ⟨h.1, fun i hi => aOp_mono (fun s' q => aAny_more n _ s' q) (h.2 i hi)⟩

theorem aAny_le {ops : Array Oper} {pu : List Nat} {K : St → Prop} {X : AV → Hp → Prop} {n m : Nat} {listed : Array Bool} {s : St} (h : aAny P T ops pu K X n listed s) (hle : n ≤ m) : aAny P T ops pu K X m listed s := by
  induction hle with
  | refl => exact h
  | step _ ih => exact aAny_more _ _ _ ih

def Plan.depth : Plan → Nat
  | .done => 0
  | .op _ p => p.depth + 1
  | .both p q => max p.depth q.depth

theorem firstOK_spec {ops : Array Oper} {pu : List Nat} {listed : Array Bool} {i : Nat} (h : firstOK ops pu listed i = true) : ∃ oi c, ops[i]? = some oi ∧ clsOK c (sl ops pu i) ∧ ∃ L : List Nat, (∀ j ∈ L, ∃ oj, ops[j]? = some oj ∧ ∃ e ∈ oj.after, Region.binds .any e = true ∧ (e.on = i ∨ e.on ∈ L)) ∧ (∀ j ∈ L, listed.getD j true = false) ∧
    ∀ j oj, ops[j]? = some oj → j ≠ i → listed.getD j true = false → j ∉ L → (∀ e ∈ oj.after, Region.binds .any e = true → e.on ≠ i) → oi.apart ops oj = true ∧ (c = true ∨ monoOp oj.op = true ∨ (isCall oj.op = true ∧ pu.contains j = true)) := by
  unfold firstOK at h
  split at h
  · cases h
  · rename_i oi hi
    simp only [Bool.and_eq_true, Bool.or_eq_true] at h
    obtain ⟨hf, h⟩ := h
    have hop : (sl ops pu i).op = oi.op := by simp [sl, hi, slimO]
    have hpu : (sl ops pu i).pure = pu.contains i := by simp [sl, hi, slimO]
    have hfree := Region.free_spec hi hf
    rcases h with (h | h) | ⟨h, hall⟩
    · exact ⟨oi, true, hi, .inl (by rw [hop]; exact h), [], by simp, by simp, fun j oj a b c _ d => ⟨hfree j oj a b c d, .inl rfl⟩⟩
    · exact ⟨oi, true, hi, .inr ⟨by rw [hop]; simpa using h.1, by rw [hpu]; exact h.2⟩, [], by simp, by simp, fun j oj a b c _ d => ⟨hfree j oj a b c d, .inl rfl⟩⟩
    · refine ⟨oi, false, hi, by show isLoad _ = true; rw [hop]; exact h, descs ops listed i ops.size, fun j hj => (descs_spec _ j hj).2.2, fun j hj => (descs_spec _ j hj).1, fun j oj a b c c2 d => ⟨hfree j oj a b c d, .inr ?_⟩⟩
      rw [List.all_eq_true] at hall
      have := hall j (List.mem_range.2 (Array.getElem?_eq_some_iff.1 a).1)
      simp only [a, Bool.or_eq_true, beq_iff_eq, b, c, Bool.false_eq_true, false_or, Bool.and_eq_true, List.contains_iff_mem, c2] at this
      rcases this with (this | this) | this
      · obtain ⟨e, he, hb⟩ := Array.any_eq_true'.1 this
        simp only [Bool.and_eq_true, beq_iff_eq] at hb
        exact absurd hb.2 (d e he hb.1)
      · exact .inl this
      · exact .inr ⟨this.1, by simpa using this.2⟩

mutual
theorem plan_any {ops : Array Oper} {pu : List Nat} {K : St → Prop} {X : AV → Hp → Prop} : ∀ (p : Plan) (listed : Array Bool) (s : St), planOK ops pu listed p = true → aPlan P T (sl ops pu) K X p s → aAny P T ops pu K X p.depth listed s
  | .done, listed, s, hp, h => by
    simp only [planOK, List.isEmpty_iff] at hp
    exact ⟨hp, h⟩
  | .op i p, listed, s, hp, h => by
    simp only [planOK, Bool.and_eq_true, Bool.or_eq_true, beq_iff_eq] at hp
    obtain ⟨hp1, hp2⟩ := hp
    simp only [aPlan] at h
    have h' := aOp_mono (fun s' q => plan_any p _ s' hp2 q) h
    rcases hp1 with e | ⟨e1, e2⟩
    · refine ⟨fun q => (by rw [e] at q; cases q), fun j hj => ?_⟩
      rw [e] at hj
      simp at hj
      subst hj
      exact h'
    · obtain ⟨oi, c, hi, hcls, L, hL1, hL2, hfree⟩ := firstOK_spec e2
      obtain ⟨x, hy, hk⟩ := first_yields hcls h'
      have hdi : (sl ops pu i).dst = oi.dst := by simp [sl, hi, slimO]
      rw [hdi] at hk
      exact aAny_first hi hL1 _ listed s x hL2 hfree (by simpa using e1) hy hk
  | .both p q, listed, s, hp, h => by
    simp only [planOK, Bool.and_eq_true, List.all_eq_true, Bool.or_eq_true] at hp
    obtain ⟨⟨⟨hne, hall⟩, hp1⟩, hp2⟩ := hp
    simp only [aPlan] at h
    have key : ∀ i ∈ Region.ready .any ops listed, ∃ n, n + 1 ≤ (Plan.both p q).depth ∧ aOp P T (sl ops pu i) (aAny P T ops pu K X n (listed.setIfInBounds i true)) X s := by
      intro i hi
      rcases hall i hi with e | e
      · obtain ⟨n, a, b⟩ := alt_any p listed s hp1 h.1 i (by simpa using e)
        exact ⟨n, by simp only [Plan.depth]; omega, b⟩
      · obtain ⟨n, a, b⟩ := alt_any q listed s hp2 h.2 i (by simpa using e)
        exact ⟨n, by simp only [Plan.depth]; omega, b⟩
    obtain ⟨m, hm⟩ : ∃ m, (Plan.both p q).depth = m + 1 := by
      cases hr : Region.ready .any ops listed with
      | nil => rw [hr] at hne; simp at hne
      | cons i is => obtain ⟨n, a, _⟩ := key i (by rw [hr]; simp); exact ⟨(Plan.both p q).depth - 1, by omega⟩
    rw [hm]
    refine ⟨fun e => (by rw [e] at hne; simp at hne), fun i hi => ?_⟩
    obtain ⟨n, a, b⟩ := key i hi
    exact aOp_mono (fun s' q => aAny_le q (by omega)) b
theorem alt_any {ops : Array Oper} {pu : List Nat} {K : St → Prop} {X : AV → Hp → Prop} : ∀ (p : Plan) (listed : Array Bool) (s : St), altOK ops pu listed p = true → aPlan P T (sl ops pu) K X p s → ∀ i ∈ p.heads, ∃ n, n + 1 ≤ p.depth ∧ aOp P T (sl ops pu i) (aAny P T ops pu K X n (listed.setIfInBounds i true)) X s
  | .done, listed, s, hp, h, i, hi => by simp [Plan.heads] at hi
  | .op j p, listed, s, hp, h, i, hi => by
    simp only [altOK] at hp
    simp only [Plan.heads, List.mem_singleton] at hi
    subst hi
    simp only [aPlan] at h
    exact ⟨p.depth, by simp [Plan.depth], aOp_mono (fun s' q => plan_any p _ s' hp q) h⟩
  | .both p q, listed, s, hp, h, i, hi => by
    simp only [altOK, Bool.and_eq_true] at hp
    simp only [aPlan] at h
    simp only [Plan.heads, List.mem_append] at hi
    rcases hi with hi | hi
    · obtain ⟨n, a, b⟩ := alt_any p listed s hp.1 h.1 i hi
      exact ⟨n, by simp only [Plan.depth]; omega, b⟩
    · obtain ⟨n, a, b⟩ := alt_any q listed s hp.2 h.2 i hi
      exact ⟨n, by simp only [Plan.depth]; omega, b⟩
end

end
end Go.Proofs.YtggcmnoacplbkaaDoor.AM
