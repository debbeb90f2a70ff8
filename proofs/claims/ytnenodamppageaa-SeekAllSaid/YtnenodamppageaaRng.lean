/- The abstract machine: loops over functions: what a round promises, what a loop's owner tells. -/
import Derived.Test.YtnenodamppageaaOwn
namespace Go.Proofs.Ytnenodamppageaa.AM
open Go
set_option linter.unusedVariables false
set_option linter.unusedSimpArgs false

/-! ### heaps in two parts -/
def Hp.join (a b : Hp) : Hp := ⟨fun k => match b k with | some o => some o | none => a k, fun k => match b.r k with | some o => some o | none => a.r k⟩
def Hp.minus (h a : Hp) : Hp := ⟨fun k => match a k with | some _ => none | none => h k, fun k => match a.r k with | some _ => none | none => h.r k⟩
structure Apart (a b : Hp) : Prop where
  c : ∀ k o, a k = some o → b k = none
  r : ∀ k o, a.r k = some o → b.r k = none
theorem Apart.c' {a b : Hp} (h : Apart a b) {k : Nat} {o : Ob} (hb : b k = some o) : a k = none := by
  cases e : a k with
  | none => rfl
  | some x => rw [h.c k x e] at hb; cases hb
theorem Apart.r' {a b : Hp} (h : Apart a b) {k : Nat} {o : Obj} (hb : b.r k = some o) : a.r k = none := by
  cases e : a.r k with
  | none => rfl
  | some x => rw [h.r k x e] at hb; cases hb
/-- h is made of F and a -/
def Spl (F a h : Hp) : Prop := h = F.join a ∧ Apart F a
theorem Hp.join_l {a b : Hp} {k : Nat} (h : b k = none) : (a.join b) k = a k := by simp [Hp.join, h]
theorem Hp.join_r {a b : Hp} {k : Nat} {o : Ob} (h : b k = some o) : (a.join b) k = some o := by simp [Hp.join, h]
theorem Hp.joinR_l {a b : Hp} {k : Nat} (h : b.r k = none) : (a.join b).r k = a.r k := by simp [Hp.join, h]
theorem Hp.joinR_r {a b : Hp} {k : Nat} {o : Obj} (h : b.r k = some o) : (a.join b).r k = some o := by simp [Hp.join, h]
theorem Hp.minus_n {h a : Hp} {k : Nat} (e : a k = none) : (h.minus a) k = h k := by simp [Hp.minus, e]
theorem Hp.minus_s {h a : Hp} {k : Nat} {o : Ob} (e : a k = some o) : (h.minus a) k = none := by simp [Hp.minus, e]
theorem Hp.minusR_n {h a : Hp} {k : Nat} (e : a.r k = none) : (h.minus a).r k = h.r k := by simp [Hp.minus, e]
theorem Hp.minusR_s {h a : Hp} {k : Nat} {o : Obj} (e : a.r k = some o) : (h.minus a).r k = none := by simp [Hp.minus, e]
theorem Spl.sub_r {F a h : Hp} (s : Spl F a h) : a.sub h := ⟨fun k o e => by rw [s.1]; exact Hp.join_r e, fun k o e => by rw [s.1]; exact Hp.joinR_r e⟩
theorem Spl.sub_l {F a h : Hp} (s : Spl F a h) : F.sub h :=
  ⟨fun k o e => by rw [s.1, Hp.join_l (s.2.c k o e)]; exact e, fun k o e => by rw [s.1, Hp.joinR_l (s.2.r k o e)]; exact e⟩
theorem Spl.of_sub {a h : Hp} (s : a.sub h) : Spl (h.minus a) a h := by
  refine ⟨Hp.ext (fun k => ?_) (fun k => ?_), fun k o e => ?_, fun k o e => ?_⟩
  · cases e : a k with
    | none => rw [Hp.join_l e, Hp.minus_n e]
    | some o => rw [Hp.join_r e, s k o e]
  · cases e : a.r k with
    | none => rw [Hp.joinR_l e, Hp.minusR_n e]
    | some o => rw [Hp.joinR_r e, s.r k o e]
  · cases e2 : a k with
    | none => rfl
    | some x => rw [Hp.minus_s e2] at e; cases e
  · cases e2 : a.r k with
    | none => rfl
    | some x => rw [Hp.minusR_s e2] at e; cases e
theorem Spl.of_sub' {F h : Hp} (s : F.sub h) : Spl F (h.minus F) h := by
  refine ⟨Hp.ext (fun k => ?_) (fun k => ?_), fun k o e => Hp.minus_s e, fun k o e => Hp.minusR_s e⟩
  · cases e : F k with
    | none =>
      cases e2 : h k with
      | none => rw [Hp.join_l (by rw [Hp.minus_n e]; exact e2), e]
      | some o => rw [Hp.join_r (o := o) (by rw [Hp.minus_n e]; exact e2)]
    | some o => rw [Hp.join_l (Hp.minus_s e), e, s k o e]
  · cases e : F.r k with
    | none =>
      cases e2 : h.r k with
      | none => rw [Hp.joinR_l (by rw [Hp.minusR_n e]; exact e2), e]
      | some o => rw [Hp.joinR_r (o := o) (by rw [Hp.minusR_n e]; exact e2)]
    | some o => rw [Hp.joinR_l (Hp.minusR_s e), e, s.r k o e]
theorem Spl.none_l {F a h : Hp} (s : Spl F a h) {k : Nat} (e : h k = none) : F k = none := s.sub_l.none e
theorem Spl.none_r {F a h : Hp} (s : Spl F a h) {k : Nat} (e : h k = none) : a k = none := s.sub_r.none e
theorem Spl.all (h : Hp) : Spl Hp.nil h h := by
  refine ⟨Hp.ext (fun k => ?_) (fun k => ?_), fun k o e => (by cases e), fun k o e => (by cases e)⟩
  · cases e : h k with
    | none => rw [Hp.join_l e]; rfl
    | some o => rw [Hp.join_r e]
  · cases e : h.r k with
    | none => rw [Hp.joinR_l e]; rfl
    | some o => rw [Hp.joinR_r e]
theorem Spl.nil_eq {a h : Hp} (s : Spl Hp.nil a h) : h = a := by
  rw [s.1]
  refine Hp.ext (fun k => ?_) (fun k => ?_)
  · cases e : a k with
    | none => rw [Hp.join_l e]; rfl
    | some o => rw [Hp.join_r e]
  · cases e : a.r k with
    | none => rw [Hp.joinR_l e]; rfl
    | some o => rw [Hp.joinR_r e]

/-! ### rounds -/
/-- What a loop's round does, by the state that the loop's owner tells. -/
def Yields (P : Program) {α σ : Type} (gb : Gh) (l : Nat) (enc : α → List AV) (R : σ → Hp → Prop) (Y : α → σ → (Bool → σ → Prop) → Prop) : Prop :=
  ∀ x s F hr h K, R s hr → Spl F hr h → Y x s K → AYield P gb l (enc x) h fun v h' => ∃ b s' hr', v = .val (.bool b) ∧ R s' hr' ∧ Spl F hr' h' ∧ K b s'

theorem Own.yielded {hb h hr h' hr' F : Hp} {its : List Itm} (H : Own hb h its) (hs : Spl F hr hb) (hs' : Spl (h.minus hr) hr' h') : Spl F hr' (F.join hr') ∧ Own (F.join hr') h' its := by
  have hrh : hr.sub h := hs.sub_r.trans H.sub
  have key : ∀ b, hb b = none → h' b = (h.minus hr) b ∨ (h.minus hr) b = none := fun b e => by
    cases e2 : (h.minus hr) b with
    | none => exact .inr rfl
    | some o => exact .inl (by rw [hs'.sub_l b o e2])
  have hap : Apart F hr' := by
    refine ⟨fun k o e => ?_, fun k o e => ?_⟩
    · refine hs'.2.c k o ?_
      rw [Hp.minus_n (hs.2.c k o e)]
      exact (hs.sub_l.trans H.sub) k o e
    · refine hs'.2.r k o ?_
      rw [Hp.minusR_n (hs.2.r k o e)]
      exact (hs.sub_l.trans H.sub).r k o e
  have hsp : Spl F hr' (F.join hr') := ⟨rfl, hap⟩
  refine ⟨hsp, ⟨fun k o e => ?_, fun k o e => ?_⟩, ?_⟩
  · cases e2 : hr' k with
    | none =>
      rw [Hp.join_l e2] at e
      refine hs'.sub_l k o ?_
      rw [Hp.minus_n (hs.2.c k o e)]
      exact (hs.sub_l.trans H.sub) k o e
    | some o' =>
      rw [Hp.join_r e2] at e; cases e
      exact hs'.sub_r k _ e2
  · cases e2 : hr'.r k with
    | none =>
      rw [Hp.joinR_l e2] at e
      refine hs'.sub_l.r k o ?_
      rw [Hp.minusR_n (hs.2.r k o e)]
      exact (hs.sub_l.trans H.sub).r k o e
    | some o' =>
      rw [Hp.joinR_r e2] at e; cases e
      exact hs'.sub_r.r k _ e2
  · obtain ⟨_, f, a1, a2, a3⟩ := H
    refine ⟨f, fun j it hj => ?_, a2, a3⟩
    have := a1 j it hj
    cases hf : f j with
    | none => rw [hf] at this; exact this
    | some b =>
      rw [hf] at this
      obtain ⟨q1, q2, q3⟩ := this
      obtain ⟨tl, q4, q5⟩ := q2
      have hr0 : hr b = none := hs.none_r q3
      have hm : (h.minus hr) b = some ⟨it.sz, it.rows ++ tl, it.ty⟩ := by rw [Hp.minus_n hr0]; exact q4
      refine ⟨q1, ⟨tl, hs'.sub_l b _ hm, q5⟩, ?_⟩
      rw [Hp.join_l (hs'.2.c b _ hm)]
      exact hs.none_l q3

/-- a call of yield -/
theorem yields_of {P : Program} {K : St → Prop} {d : Option Nat} {tm : List AV} {α σ : Type} {gb : Gh} {l : Nat} {enc : α → List AV} {R : σ → Hp → Prop} {Y : α → σ → (Bool → σ → Prop) → Prop} {F hr hb h : Hp} {its : List Itm} {s : σ} {K' : Bool → σ → Prop}
    (hY : Yields P gb l enc R Y) (hR : R s hr) (hs : Spl F hr hb) (H : Own hb h its) (x : α) {args : List AV} (ha : args = enc x) (hm : Y x s K')
    (k : ∀ b s' hr' hb' h', R s' hr' → Spl F hr' hb' → Own hb' h' its → K' b s' → K ⟨put tm d (.val (.bool b)), h'⟩) : yields P K d tm h gb l args := by
  subst ha
  refine (hY x s _ hr h K' hR (Spl.of_sub (hs.sub_r.trans H.sub)) hm).mono ?_
  rintro v h' ⟨b, s', hr', rfl, h1, h2, h3⟩
  obtain ⟨p1, p2⟩ := H.yielded hs h2
  exact k b s' hr' _ h' h1 p1 p2 h3

/-! ### what the owner of a loop tells -/
def Hp.addR (h : Hp) (rs : List (Nat × Obj)) : Hp := ⟨h.c, fun k => match rs.find? (fun p => p.1 == k) with | some p => some p.2 | none => h.r k⟩
theorem Hp.addR_nil (h : Hp) : h.addR [] = h := rfl
/-- things owned beside h0: cells, and objects of other kinds -/
def RawOK (h0 : Hp) (rs : List (Nat × Obj)) : Prop := (∀ p ∈ rs, h0.r p.1 = none) ∧ (rs.map (·.1)).Nodup
def Ownr (h0 h : Hp) (its : List Itm) (rs : List (Nat × Obj)) : Prop := RawOK h0 rs ∧ Own (h0.addR rs) h its
theorem Own.r {h0 h : Hp} {its : List Itm} (H : Own h0 h its) : Ownr h0 h its [] := ⟨⟨fun _ h => (by cases h), List.nodup_nil⟩, H⟩
theorem Ownr.own {h0 h : Hp} {its : List Itm} (H : Ownr h0 h its []) : Own h0 h its := H.2

theorem addR_some {h : Hp} {rs : List (Nat × Obj)} {k : Nat} {o : Obj} (e : (h.addR rs).r k = some o) : (∃ p ∈ rs, p.1 = k ∧ p.2 = o ∧ rs.find? (fun p => p.1 == k) = some p) ∨ (rs.find? (fun p => p.1 == k) = none ∧ h.r k = some o) := by
  simp only [Hp.addR] at e
  cases e2 : rs.find? (fun p => p.1 == k) with
  | none => rw [e2] at e; exact .inr ⟨rfl, e⟩
  | some p =>
    rw [e2] at e
    simp only [Option.some.injEq] at e
    have h1 := List.mem_of_find?_eq_some e2
    have h2 := List.find?_some e2
    exact .inl ⟨p, h1, by simpa using h2, e, rfl⟩
theorem addR_keep {h : Hp} {rs : List (Nat × Obj)} (hd : ∀ p ∈ rs, h.r p.1 = none) {k : Nat} {o : Obj} (e : h.r k = some o) : (h.addR rs).r k = some o := by
  simp only [Hp.addR]
  cases e2 : rs.find? (fun p => p.1 == k) with
  | none => exact e
  | some p =>
    have h1 := List.mem_of_find?_eq_some e2
    have h2 := List.find?_some e2
    have : p.1 = k := by simpa using h2
    have := hd p h1
    simp_all
theorem Ownr.sub {h0 h : Hp} {its : List Itm} {rs : List (Nat × Obj)} (H : Ownr h0 h its rs) : h0.sub h :=
  ⟨fun k o e => H.2.sub k o e, fun k o e => H.2.sub.r k o (addR_keep H.1.1 e)⟩

/-- into a larger memory -/
theorem Ownr.larger {h0 h F h2 : Hp} {its : List Itm} {rs : List (Nat × Obj)} (H : Ownr h0 h its rs) (s : Spl F h h2) : Ownr (F.join h0) h2 its rs := by
  have hF0 : Apart F h0 := ⟨fun k o e => H.sub.none (s.2.c k o e), fun k o e => by
    cases e2 : h0.r k with
    | none => rfl
    | some y => have := H.sub.r k y e2; rw [s.2.r k o e] at this; cases this⟩
  have hrs : ∀ p ∈ rs, (F.join h0).r p.1 = none := fun p hp => by
    rw [Hp.joinR_l (H.1.1 p hp)]
    obtain ⟨q, hq, e1, e2⟩ : ∃ q ∈ rs, q.1 = p.1 ∧ rs.find? (fun r => r.1 == p.1) = some q := by
      cases e2 : rs.find? (fun r => r.1 == p.1) with
      | none => have := List.find?_eq_none.1 e2 p hp; simp at this
      | some q => exact ⟨q, List.mem_of_find?_eq_some e2, by simpa using List.find?_some e2, rfl⟩
    refine s.2.r' (o := q.2) (H.2.sub.r p.1 q.2 ?_)
    simp only [Hp.addR, e2]
  refine ⟨⟨hrs, H.1.2⟩, ⟨fun k o e => ?_, fun k o e => ?_⟩, ?_⟩
  · have e' : (F.join h0) k = some o := e
    cases e2 : h0 k with
    | none => rw [Hp.join_l e2] at e'; exact s.sub_l k o e'
    | some o' => rw [Hp.join_r e2] at e'; cases e'; exact s.sub_r k _ (H.sub k _ e2)
  · rcases addR_some e with ⟨p, hp, rfl, rfl, e3⟩ | ⟨e3, e4⟩
    · refine s.sub_r.r p.1 p.2 (H.2.sub.r p.1 p.2 ?_)
      simp only [Hp.addR, e3]
    · cases e2 : h0.r k with
      | none => rw [Hp.joinR_l e2] at e4; exact s.sub_l.r k o e4
      | some o' => rw [Hp.joinR_r e2] at e4; cases e4; exact s.sub_r.r k _ (H.sub.r k _ e2)
  · obtain ⟨_, _, f, a1, a2, a3⟩ := H
    refine ⟨f, fun j it hj => ?_, a2, a3⟩
    have := a1 j it hj
    cases hf : f j with
    | none => rw [hf] at this; exact this
    | some b =>
      rw [hf] at this
      obtain ⟨q1, ⟨tl, q4, q5⟩, q3⟩ := this
      refine ⟨q1, ⟨tl, s.sub_r b _ q4, q5⟩, ?_⟩
      have q3' : h0 b = none := q3
      show (F.join h0) b = none
      rw [Hp.join_l q3']; exact s.2.c' q4
/-- and back -/
theorem Ownr.smaller {h0 F h2 : Hp} {its : List Itm} {rs : List (Nat × Obj)} (H : Ownr (F.join h0) h2 its rs) (hF : Apart F h0) : Ownr h0 (h2.minus F) its rs ∧ Spl F (h2.minus F) h2 := by
  have hl : F.sub (F.join h0) := (Spl.sub_l ⟨rfl, hF⟩)
  have hr : h0.sub (F.join h0) := (Spl.sub_r ⟨rfl, hF⟩)
  have hFs : F.sub h2 := hl.trans H.sub
  have hrs : ∀ p ∈ rs, F.r p.1 = none ∧ h0.r p.1 = none := fun p hp => by
    have := H.1.1 p hp
    constructor
    · cases e : F.r p.1 with
      | none => rfl
      | some o => rw [hl.r _ o e] at this; cases this
    · cases e : h0.r p.1 with
      | none => rfl
      | some o => rw [hr.r _ o e] at this; cases this
  refine ⟨⟨⟨fun p hp => (hrs p hp).2, H.1.2⟩, ⟨fun k o e => ?_, fun k o e => ?_⟩, ?_⟩, Spl.of_sub' hFs⟩
  · have e' : h0 k = some o := e
    rw [Hp.minus_n (hF.c' e')]
    exact H.sub k o (hr k o e')
  · rcases addR_some e with ⟨p, hp, rfl, rfl, e3⟩ | ⟨e3, e4⟩
    · rw [Hp.minusR_n (hrs p hp).1]
      refine H.2.sub.r p.1 p.2 ?_
      simp only [Hp.addR, e3]
    · rw [Hp.minusR_n (hF.r' e4)]
      exact H.sub.r k o (hr.r k o e4)
  · obtain ⟨_, _, f, a1, a2, a3⟩ := H
    refine ⟨f, fun j it hj => ?_, a2, a3⟩
    have := a1 j it hj
    cases hf : f j with
    | none => rw [hf] at this; exact this
    | some b =>
      rw [hf] at this
      obtain ⟨q1, ⟨tl, q4, q5⟩, q3⟩ := this
      have q3' : (F.join h0) b = none := q3
      have e1 : F b = none := hl.none q3'
      refine ⟨q1, ⟨tl, by rw [Hp.minus_n e1]; exact q4, q5⟩, hr.none q3'⟩

/-- a record beside -/
theorem Ownr.rec {h0 h : Hp} {its : List Itm} {rs : List (Nat × Obj)} (H : Ownr h0 h its rs) {l : Nat} (hl : h.r l = none) (o : Obj) : Ownr (h0.updR l o) (h.updR l o) its rs := by
  have hne : ∀ p ∈ rs, p.1 ≠ l := fun p hp e => by
    obtain ⟨q, e2⟩ : ∃ q, rs.find? (fun r => r.1 == l) = some q := by
      cases e2 : rs.find? (fun r => r.1 == l) with
      | none => have := List.find?_eq_none.1 e2 p hp; simp [e] at this
      | some q => exact ⟨q, rfl⟩
    have := H.2.sub.r l q.2 (by simp only [Hp.addR, e2])
    rw [hl] at this; cases this
  refine ⟨⟨fun p hp => by rw [Hp.updR_ne _ _ (hne p hp)]; exact H.1.1 p hp, H.1.2⟩, ⟨H.2.sub.c, fun k o' e => ?_⟩, H.2.2⟩
  rcases addR_some e with ⟨p, hp, rfl, rfl, e3⟩ | ⟨e3, e4⟩
  · rw [Hp.updR_ne _ _ (hne p hp)]
    exact H.2.sub.r _ _ (by simp only [Hp.addR, e3])
  · by_cases ek : k = l
    · subst ek
      rw [Hp.updR_same] at e4 ⊢; exact e4
    · rw [Hp.updR_ne _ _ ek] at e4 ⊢
      exact H.sub.r k o' e4
/-- the record taken out -/
theorem Ownr.unrec {h0 h : Hp} {its : List Itm} {rs : List (Nat × Obj)} {l : Nat} {o : Obj} (H : Ownr (h0.updR l o) h its rs) (hl : h0.r l = none) : Ownr h0 (h.delR l) its rs ∧ h.r l = some o := by
  have hne : ∀ p ∈ rs, p.1 ≠ l := fun p hp e => by
    have := H.1.1 p hp
    rw [e, Hp.updR_same] at this; cases this
  have hlo : h.r l = some o := H.sub.r l o (Hp.updR_same _ _ _)
  refine ⟨⟨⟨fun p hp => by have := H.1.1 p hp; rwa [Hp.updR_ne _ _ (hne p hp)] at this, H.1.2⟩, ⟨H.2.sub.c, fun k o' e => ?_⟩, H.2.2⟩, hlo⟩
  have hd : ∀ k, k ≠ l → (h.delR l).r k = h.r k := fun k e => by simp [Hp.delR, e]
  rcases addR_some e with ⟨p, hp, rfl, rfl, e3⟩ | ⟨e3, e4⟩
  · rw [hd _ (hne p hp)]
    exact H.2.sub.r _ _ (by simp only [Hp.addR, e3])
  · have ek : k ≠ l := by rintro rfl; rw [hl] at e4; cases e4
    rw [hd _ ek]
    exact H.sub.r k o' (by rw [Hp.updR_ne _ _ ek]; exact e4)
theorem Hp.updR_delR {h : Hp} {l : Nat} {o o' : Obj} (e : h.r l = some o) : (h.delR l).updR l o' = h.updR l o' :=
  Hp.ext (fun _ => rfl) (fun k => by simp only [Hp.updR, Hp.delR]; split <;> simp_all)
theorem Hp.updR_updR (h : Hp) (l : Nat) (o o' : Obj) : (h.updR l o).updR l o' = h.updR l o' :=
  Hp.ext (fun _ => rfl) (fun k => by simp only [Hp.updR]; split <;> simp_all)
theorem Hp.delR_updR {h : Hp} {l : Nat} (o : Obj) (e : h.r l = none) : (h.updR l o).delR l = h :=
  Hp.ext (fun _ => rfl) (fun k => by
    simp only [Hp.updR, Hp.delR]; split
    · rename_i q; subst q; exact e.symm
    · rfl)

/-- which way a round was left: 0: it goes on -/
def penOf (exs : List Code) : Nat → Option Code
  | 0 => none
  | k + 1 => exs[k]?
def endsAs (exs : List Code) : AX → Nat → Prop
  | .norm, 0 => True
  | .ret, k + 1 => exs[k]? = some .ret
  | .exit i, k + 1 => exs[k]? = some (.exit i)
  | _, _ => False
/-- what a loop's body asks at its end -/
def rngQ {σ : Type} (exs : List Code) (I : σ → List Itm → List (Nat × Obj) → Prop) (hb : Hp) (K : Bool → σ × Nat → Prop) : AX → St → Prop := fun e s => ∃ k s' its rs, I s' its rs ∧ Ownr hb s.h its rs ∧ K (k == 0) (s', k) ∧ endsAs exs e k

theorem rngQ_of {σ : Type} {exs : List Code} {I : σ → List Itm → List (Nat × Obj) → Prop} {hb : Hp} {K : Bool → σ × Nat → Prop} {e : AX} {s : St} (k : Nat) (s' : σ) {its : List Itm} {rs : List (Nat × Obj)} (hI : I s' its rs) (H : Ownr hb s.h its rs) (hK : K (k == 0) (s', k)) (he : endsAs exs e k) : rngQ exs I hb K e s :=
  ⟨k, s', its, rs, hI, H, hK, he⟩
theorem penOf_nil {k : Nat} : penOf [] k = none := by cases k <;> rfl
theorem penOf_none {exs : List Code} {k : Nat} (h : k = 0 ∨ exs.length < k) : penOf exs k = none := by
  cases k with
  | zero => rfl
  | succ k => exact List.getElem?_eq_none (by omega)
theorem retQ_it {T : Tab} {rs : List ResultVar} {Q : AE → Hp → Prop} {s : St} {e : AX} (he : e = .ret ∨ e = .norm) {x : AV} {hb : Hp} (hr : aResults T rs s.tm s.h = some x) (hs : hb.sub s.h) (hq : Q (.ret x) hb) : retQ T rs Q e s := by
  rcases he with rfl | rfl <;> exact ⟨x, x, hb, hr, Shift.forget hs, hq⟩
theorem awp_range {P : Program} {T : Tab} {f : Operand} {ps : List Nat} {as_ bd : AC} {Q : AX → St → Prop} {tm : List AV} {h hb : Hp} {n : Nat} {caps : List AV} (hf : ev tm f = .fn (.func n) [] caps)
    {α σ : Type} (exs : List Code) {enc : α → List AV} {Y : α → σ × Nat → (Bool → σ × Nat → Prop) → Prop} (I : σ → List Itm → List (Nat × Obj) → Prop) {s0 : σ} {QW : σ × Nat → Prop}
    (hit : ∀ {gb : Gh} {l : Nat} {R : σ × Nat → Hp → Prop} {F hr h0 : Hp}, Yields P gb l enc R Y → R (s0, 0) hr → Spl F hr h0 → ACalls P n (.yld l gb :: caps) h0 fun e h' => (∃ x, e = .ret x) ∧ ∃ s' hr', R s' hr' ∧ Spl F hr' h' ∧ QW s')
    (its0 : List Itm) (rs0 : List (Nat × Obj)) (hI0 : I s0 its0 rs0) (H : Ownr hb h its0 rs0) (hlen : ∀ x, (enc x).length = ps.length)
    (hY0 : ∀ x s k K, k ≠ 0 → ¬ Y x (s, k) K)
    (hbody : ∀ x s its rs K hb h, Y x (s, 0) K → I s its rs → Ownr hb h its rs → awp P T as_ (athen (fun st => ∃ its2, Ownr hb st.h its2 rs ∧ ∀ hb' h', Ownr hb' h' its2 rs → awp P T bd (rngQ exs I hb' K) ⟨st.tm, h'⟩) (fun _ _ => False)) ⟨setAll tm ps (enc x), h⟩)
    (hrest : ∀ s k its rs h, QW (s, k) → I s its rs → Ownr hb h its rs → apend Q ⟨tm, h⟩ (penOf exs k)) : awp P T (.range f ps as_ bd) Q ⟨tm, h⟩ := by
  simp only [awp, hf]
  intro l gb o ho hl hyl
  let st : Nat → LoopState := fun k => if k = 0 then .ready else .done
  let R : σ × Nat → Hp → Prop := fun s hr => ∃ hc its rs, hr = hc.updR l (o (st s.2) (penOf exs s.2)) ∧ hc.r l = none ∧ I s.1 its rs ∧ Ownr hb hc its rs
  have hbl : hb.r l = none := by
    cases e : hb.r l with
    | none => rfl
    | some o' => have := H.sub.r l o' e; rw [hl] at this; cases this
  have hYs : Yields P gb l enc R Y := by
    rintro x ⟨s, k⟩ F hr h2 K ⟨hc, its, rs, rfl, hcl, hI, hO⟩ hs hy
    by_cases hk : k = 0
    rotate_left
    · exact absurd hy (hY0 x s k K hk)
    subst hk
    have hrl : h2.r l = some (o .ready none) := hs.sub_r.r l _ (by rw [Hp.updR_same]; rfl)
    have hFl : F.r l = none := hs.2.r' (o := o .ready none) (by rw [Hp.updR_same]; rfl)
    have hsp : Spl F (hc.updR l (o .ready none)) h2 := hs
    have base : ∀ o', F.join (hb.updR l o') = (F.join hb).updR l o' := fun o' => Hp.ext (fun _ => rfl) (fun k => by
      by_cases e : k = l
      · subst e; rw [Hp.updR_same, Hp.joinR_r (Hp.updR_same _ _ _)]
      · rw [Hp.updR_ne _ _ e]
        have q : (hb.updR l o').r k = hb.r k := Hp.updR_ne _ _ e
        simp only [Hp.join, q])
    have hFb : Apart F hb := ⟨fun k x e => hO.sub.none (hs.2.c k x e), fun k x e => by
      cases e2 : hb.r k with
      | none => rfl
      | some o' =>
        have e1 : k ≠ l := by rintro rfl; rw [hFl] at e; cases e
        have h3 := hO.sub.r k o' e2
        have h4 := hs.2.r k x e
        rw [Hp.updR_ne _ _ e1] at h4; rw [h3] at h4; cases h4⟩
    have hjl : (F.join hb).r l = none := by rw [Hp.joinR_l hbl]; exact hFl
    have hO2 : Ownr ((F.join hb).updR l (o .ready none)) h2 its rs := by
      rw [← base]; exact (hO.rec hcl (o .ready none)).larger hsp
    have hbase : ∀ (k : Nat) (s' : σ) (its' : List Itm) (rs' : List (Nat × Obj)) (h3 : Hp), I s' its' rs' → Ownr ((F.join hb).updR l (o .busy none)) h3 its' rs' → h3.r l = some (o .busy none) ∧
        ∃ hr', R (s', k) hr' ∧ Spl F hr' (h3.updR l (o (st k) (penOf exs k))) := by
      intro k s' its' rs' h3 hI' hO'
      obtain ⟨u1, u2⟩ := hO'.unrec hjl
      obtain ⟨v1, v2⟩ := u1.smaller hFb
      have e1 : ((h3.delR l).minus F).r l = none := by rw [Hp.minusR_n hFl]; simp [Hp.delR]
      refine ⟨u2, _, ⟨(h3.delR l).minus F, its', rs', rfl, e1, hI', v1⟩, ?_, ⟨v2.2.c, fun k' x e => ?_⟩⟩
      · refine Hp.ext (fun k' => ?_) (fun k' => ?_)
        · have := congrArg (fun h : Hp => h k') v2.1
          exact this
        · by_cases e : k' = l
          · subst e; rw [Hp.updR_same, Hp.joinR_r (Hp.updR_same _ _ _)]
          · rw [Hp.updR_ne _ _ e]
            have q : ∀ o'', (((h3.delR l).minus F).updR l o'').r k' = ((h3.delR l).minus F).r k' := fun o'' => Hp.updR_ne _ _ e
            have := congrArg (fun h : Hp => h.r k') v2.1
            have e3 : (h3.delR l).r k' = h3.r k' := by simp [Hp.delR, e]
            simp only [Hp.join, q]
            rw [← e3]; exact this
      · have e2 : k' ≠ l := by rintro rfl; rw [hFl] at e; cases e
        rw [Hp.updR_ne _ _ e2]; exact v2.2.r k' x e
    refine (hyl (enc x) h2 (fun pe h' => ∃ k s' hr', pe = penOf exs k ∧ pe.isNone = (k == 0) ∧ R (s', k) hr' ∧ Spl F hr' h' ∧ K (k == 0) (s', k)) (hlen x) hrl ?_).mono ?_
    · refine awp_mono as_ ?_ _ (hbody x s its rs K _ h2 hy hI hO2)
      intro e st1 hq
      cases e with
      | norm =>
        obtain ⟨its2, q1, q2⟩ := hq
        obtain ⟨u1, u2⟩ := q1.unrec hjl
        have hO3 := u1.rec (l := l) (by simp [Hp.delR]) (o .busy none)
        rw [Hp.updR_delR u2] at hO3
        refine ⟨u2, awp_mono bd ?_ _ (q2 _ _ hO3)⟩
        rintro e st2 ⟨k, s', its', rs', a1, a2, a3, a4⟩
        obtain ⟨b1, hr', b2, b3⟩ := hbase k s' its' rs' st2.h a1 a2
        cases e with
        | norm =>
          cases k with
          | succ k => exact a4.elim
          | zero => exact ⟨b1, 0, s', hr', rfl, rfl, b2, b3, a3⟩
        | ret =>
          cases k with
          | zero => exact a4.elim
          | succ k =>
            have e1 : penOf exs (k + 1) = some .ret := a4
            have e2 : st (k + 1) = .done := rfl
            rw [e1, e2] at b3
            exact ⟨b1, k + 1, s', hr', e1.symm, rfl, b2, b3, a3⟩
        | exit i =>
          cases k with
          | zero => exact a4.elim
          | succ k =>
            have e1 : penOf exs (k + 1) = some (.exit i) := a4
            have e2 : st (k + 1) = .done := rfl
            rw [e1, e2] at b3
            exact ⟨b1, k + 1, s', hr', e1.symm, rfl, b2, b3, a3⟩
        | pan x => cases k <;> exact a4.elim
      | exit n => exact hq.elim
      | ret => exact hq.elim
      | pan x => exact hq.elim
    · rintro v h' ⟨pe, rfl, k, s', hr', rfl, h0, h1, h2, h3⟩
      exact ⟨(k == 0), (s', k), hr', by rw [h0]; rfl, h1, h2, h3⟩
  refine (hit (R := R) hYs ⟨h, its0, rs0, rfl, hl, hI0, H⟩ (Spl.all _)).mono ?_
  rintro e h' ⟨hx, ⟨s', k⟩, hr', ⟨hc, its, rs, rfl, hcl, hI, hO⟩, hs, hq⟩
  obtain rfl := hs.nil_eq
  refine ⟨hx, penOf exs k, st k, Hp.updR_same _ _ _, ?_, ?_⟩
  · show (if k = 0 then LoopState.ready else LoopState.done) ≠ .busy
    split <;> simp
  · rw [Hp.delR_updR _ hcl]
    exact hrest s' k its rs hc hq hI hO
end Go.Proofs.Ytnenodamppageaa.AM
