/- The abstract machine: maps, as rows of pairs. -/
import Derived.Test.YtnenodamppageaaRng
namespace Go.Proofs.Ytnenodamppageaa.AM
open Go
set_option linter.unusedVariables false
set_option linter.unusedSimpArgs false
set_option linter.unusedSectionVars false

/-! ### rows of pairs -/
def aget {α β : Type} [DecidableEq α] : List (α × β) → α → Option β
  | [], _ => none
  | p :: m, x => if x = p.1 then some p.2 else aget m x
def aset {α β : Type} [DecidableEq α] : List (α × β) → α → β → List (α × β)
  | [], x, v => [(x, v)]
  | p :: m, x, v => if x = p.1 then (x, v) :: m else p :: aset m x v

/-- keys of a kind, as values -/
structure KeyV (kk : TK) {α : Type} [DecidableEq α] (kv : α → Value) : Prop where
  key : ∀ x, keyK kk (kv x) = true
  same : ∀ x y, sameK kk (kv x) (kv y) = some (decide (x = y))
theorem keyInt (k : IntKind) : KeyV (.int k) (fun n : Int => .int k n) := ⟨fun x => by simp [keyK], fun x y => by simp [sameK]; rw [Bool.eq_iff_iff]; simp⟩
theorem keyStr : KeyV .str (fun s : ByteArray => .string s) := ⟨fun x => rfl, fun x y => by
  simp only [sameK, Option.some.injEq]
  rw [Bool.eq_iff_iff, ba_beq, decide_eq_true_iff]⟩
section
variable {kk : TK} {α β : Type} [DecidableEq α] {kv : α → Value} (hk : KeyV kk kv) (vv : β → Value)
include hk
theorem lookNow_typed : ∀ (m : List (α × β)) (x : α), lookNow kk (m.map fun p => (kv p.1, vv p.2)) (kv x) = some ((aget m x).map vv)
  | [], x => rfl
  | p :: m, x => by
    simp only [List.map_cons, lookNow, hk.same, aget]
    by_cases e : x = p.1
    · simp [e]
    · simp [e, lookNow_typed m x]
theorem updNow_typed : ∀ (m : List (α × β)) (x : α) (v : β), updNow kk (m.map fun p => (kv p.1, vv p.2)) (kv x) (vv v) = some ((aset m x v).map fun p => (kv p.1, vv p.2))
  | [], x, v => rfl
  | p :: m, x, v => by
    simp only [List.map_cons, updNow, hk.same, aset]
    by_cases e : x = p.1
    · simp [e]
    · simp [e, updNow_typed m x v]
end

/-! ### steps -/
section
variable {P : Program} {T : Tab} {K : St → Prop} {X : AV → Hp → Prop} {d : Option Nat} {tm : List AV} {h : Hp} {pu : Bool}
def mkMap (o : Option TI) (K : St → Prop) (d : Option Nat) (tm : List AV) (h : Hp) : Prop := match o with
  | some ti => match ti.kind with
    | .map _ _ => ∀ b, h.r b = none → K ⟨put tm d (.val (.map (some b))), h.updR b (mapObj [])⟩
    | _ => False
  | none => False
def lookK (T : Tab) (K : St → Prop) (d : Option Nat) (tm : List AV) (h : Hp) (t : Nat) (x i : AV) (ok : Bool) : Prop := aLook T t x i ok h fun y h' => K ⟨put tm d y, h'⟩
def updK (T : Tab) (K : St → Prop) (d : Option Nat) (tm : List AV) (h : Hp) (t : Nat) (x i v : AV) : Prop := aUpd T t x i v h fun y h' => K ⟨put tm d y, h'⟩
def rangeK (T : Tab) (K : St → Prop) (d : Option Nat) (tm : List AV) (h : Hp) (t : Nat) (x : AV) : Prop := aRange T t x h fun y h' => K ⟨put tm d y, h'⟩
def nextK (K : St → Prop) (d : Option Nat) (tm : List AV) (h : Hp) (x : AV) : Prop := aNext x h fun y h' => K ⟨put tm d y, h'⟩
def entryK (K : St → Prop) (d : Option Nat) (tm : List AV) (h : Hp) (x : AV) : Prop := aEntry x h fun y h' => K ⟨put tm d y, h'⟩
theorem one_makeMap (t : Nat) : one P T pu (.makeMap t none) d K X ⟨tm, h⟩ = mkMap (T t) K d tm h := rfl
theorem one_lookup (t : Nat) (x i : Operand) (ok : Bool) : one P T pu (.lookup t x i ok) d K X ⟨tm, h⟩ = lookK T K d tm h t (ev tm x) (ev tm i) ok := rfl
theorem one_mapUpdate (t : Nat) (x i v : Operand) : one P T pu (.mapUpdate t x i v) d K X ⟨tm, h⟩ = updK T K d tm h t (ev tm x) (ev tm i) (ev tm v) := rfl
theorem one_range (t : Nat) (x : Operand) : one P T pu (.range t x) d K X ⟨tm, h⟩ = rangeK T K d tm h t (ev tm x) := rfl
theorem one_next (x : Operand) : one P T pu (.next x false) d K X ⟨tm, h⟩ = nextK K d tm h (ev tm x) := rfl
theorem one_entry (x : Operand) : one P T pu (.entry x) d K X ⟨tm, h⟩ = entryK K d tm h (ev tm x) := rfl
attribute [push_cast] one_makeMap one_lookup one_mapUpdate one_range one_next one_entry

theorem addR_at {B : Hp} {rs : List (Nat × Obj)} (hD : RawOK B rs) (j : Nat) {b : Nat} {o : Obj} (hj : rs[j]? = some (b, o)) : (B.addR rs).r b = some o := by
  have hm := List.mem_of_getElem? hj
  have hf : rs.find? (fun p => p.1 == b) = some (b, o) := by
    cases e : rs.find? (fun p => p.1 == b) with
    | none => have := List.find?_eq_none.1 e _ hm; simp at this
    | some q =>
      have h1 := List.mem_of_find?_eq_some e
      have h2 : q.1 = b := by simpa using List.find?_some e
      obtain ⟨i, hi⟩ := List.getElem?_of_mem h1
      have e1 := (List.getElem?_eq_some_iff.1 hi)
      have e2 := (List.getElem?_eq_some_iff.1 hj)
      have : i = j := by
        refine nodup_inj hD.2 i j (by simpa using e1.1) (by simpa using e2.1) ?_
        simp [e1.2, e2.2, h2]
      subst this
      rw [hi] at hj; exact hj
  simp only [Hp.addR, hf]
variable {B : Hp} {rs : List (Nat × Obj)} {its : List Itm}
theorem Own.rawAt (H : Own (B.addR rs) h its) (hD : RawOK B rs) (j : Nat) {b : Nat} {o : Obj} (hj : rs[j]? = some (b, o)) : h.r b = some o := H.sub.r b o (addR_at hD j hj)
/-- one more object -/
theorem Own.addRaw (H : Own (B.addR rs) h its) (hD : RawOK B rs) {b : Nat} (hb : h.r b = none) (o : Obj) : RawOK B (rs ++ [(b, o)]) ∧ Own (B.addR (rs ++ [(b, o)])) (h.updR b o) its := by
  have hn : ∀ p ∈ rs, p.1 ≠ b := fun p hp e => by
    obtain ⟨j, hj⟩ := List.getElem?_of_mem hp
    have := H.rawAt hD j (b := p.1) (o := p.2) hj
    rw [e, hb] at this; cases this
  have hB : B.r b = none := by
    cases e : B.r b with
    | none => rfl
    | some o' => have := H.sub.r b o' (addR_keep hD.1 e); rw [hb] at this; cases this
  refine ⟨⟨fun p hp => ?_, ?_⟩, ⟨H.sub.c, fun k o' e => ?_⟩, H.2⟩
  · rcases List.mem_append.1 hp with hp | hp
    · exact hD.1 p hp
    · simp at hp; rw [hp]; exact hB
  · rw [List.map_append, List.nodup_append]
    refine ⟨hD.2, by simp, fun x hx y hy => ?_⟩
    obtain ⟨p, hp, rfl⟩ := List.mem_map.1 hx
    simp at hy; rw [hy]; exact hn p hp
  · rcases addR_some e with ⟨p, hp, rfl, rfl, _⟩ | ⟨e3, e4⟩
    · rcases List.mem_append.1 hp with hp | hp
      · rw [Hp.updR_ne _ _ (hn p hp)]
        obtain ⟨j, hj⟩ := List.getElem?_of_mem hp
        exact H.rawAt hD j hj
      · simp at hp; rw [hp, Hp.updR_same]
    · have hk : k ≠ b := by rintro rfl; rw [hB] at e4; cases e4
      rw [Hp.updR_ne _ _ hk]
      exact H.sub.r k o' (addR_keep hD.1 e4)
/-- an object turned -/
theorem Own.setRaw (H : Own (B.addR rs) h its) (hD : RawOK B rs) (j : Nat) {b : Nat} {o : Obj} (hj : rs[j]? = some (b, o)) (o' : Obj) : RawOK B (rs.set j (b, o')) ∧ Own (B.addR (rs.set j (b, o'))) (h.updR b o') its := by
  have hmap : (rs.set j (b, o')).map (·.1) = rs.map (·.1) := by
    apply List.ext_getElem?
    intro i
    simp only [List.getElem?_map, List.getElem?_set]
    split
    · rename_i e; subst e
      rw [hj]
      have := (List.getElem?_eq_some_iff.1 hj).1
      simp [this]
    · rfl
  have hD' : RawOK B (rs.set j (b, o')) := by
    refine ⟨fun p hp => ?_, by rw [hmap]; exact hD.2⟩
    have : p.1 ∈ (rs.set j (b, o')).map (·.1) := List.mem_map_of_mem hp
    rw [hmap] at this
    obtain ⟨q, hq, e⟩ := List.mem_map.1 this
    rw [← e]; exact hD.1 q hq
  have hjl := (List.getElem?_eq_some_iff.1 hj).1
  refine ⟨hD', ⟨H.sub.c, fun k x e => ?_⟩, H.2⟩
  rcases addR_some e with ⟨p, hp, rfl, rfl, _⟩ | ⟨e3, e4⟩
  · obtain ⟨i, hi⟩ := List.getElem?_of_mem hp
    rw [List.getElem?_set] at hi
    split at hi
    · cases hi
      exact Hp.updR_same _ _ _
    · rename_i hij
      have hne : p.1 ≠ b := fun e => by
        have e1 := (List.getElem?_eq_some_iff.1 hi)
        have e2 := (List.getElem?_eq_some_iff.1 hj)
        exact hij (nodup_inj hD.2 j i (by simpa using e2.1) (by simpa using e1.1) (by simp [e1.2, e2.2, e]))
      rw [Hp.updR_ne _ _ hne]
      exact H.rawAt hD i hi
  · have hk : k ≠ b := by
      rintro rfl
      have := hD.1 (k, o) (List.mem_of_getElem? hj)
      rw [this] at e4; cases e4
    rw [Hp.updR_ne _ _ hk]
    exact H.sub.r k x (addR_keep hD.1 e4)

/-- some objects given up -/
theorem Ownr.dropR {rs rs2 : List (Nat × Obj)} (H : Ownr B h its (rs ++ rs2)) : Ownr B h its rs := by
  have hD : RawOK B rs := ⟨fun p hp => H.1.1 p (by simp [hp]), by have := H.1.2; rw [List.map_append, List.nodup_append] at this; exact this.1⟩
  refine ⟨hD, ⟨H.2.sub.c, fun k o e => ?_⟩, H.2.2⟩
  rcases addR_some e with ⟨p, hp, rfl, rfl, _⟩ | ⟨e3, e4⟩
  · obtain ⟨j, hj⟩ := List.getElem?_of_mem hp
    exact Own.rawAt H.2 H.1 j (by rw [List.getElem?_append, if_pos (List.getElem?_eq_some_iff.1 hj).1]; exact hj)
  · exact H.2.sub.r k o (addR_keep H.1.1 e4)

/-! ### the steps' rules -/
theorem mk_of {n1 n2 a e : Nat} {zz : List Value} {q : Option (List (Nat × TK))} (H : Own (B.addR rs) h its) (hD : RawOK B rs)
    (k : ∀ b h', RawOK B (rs ++ [(b, mapObj [])]) → Own (B.addR (rs ++ [(b, mapObj [])])) h' its → K ⟨put tm d (.val (.map (some b))), h'⟩) : mkMap (some ⟨n1, n2, zz, .map a e, q⟩) K d tm h := by
  intro b hb
  obtain ⟨h1, h2⟩ := H.addRaw hD hb (mapObj [])
  exact k b _ h1 h2
theorem mk_of0 {n1 n2 a e : Nat} {zz : List Value} {q : Option (List (Nat × TK))} (H : Own B h its)
    (k : ∀ b h', RawOK B [(b, mapObj [])] → Own (B.addR [(b, mapObj [])]) h' its → K ⟨put tm d (.val (.map (some b))), h'⟩) : mkMap (some ⟨n1, n2, zz, .map a e, q⟩) K d tm h :=
  mk_of (rs := []) (B := B) H ⟨fun _ h => (by cases h), List.nodup_nil⟩ k
variable {α β : Type} [DecidableEq α] {kk : TK} {kv : α → Value} {vv : β → Value}
theorem look_of {t kt et n1 n2 m1 m2 : Nat} {zz z2 : List Value} {q q2 : Option (List (Nat × TK))} {ei : TI} (hk : KeyV kk kv) (av : β → AV) (hav : ∀ v, constAV (vv v) = av v) (z : β) (hz : constAV (zeroV ei) = av z)
    (ht : T t = some ⟨n1, n2, zz, .map kt et, q⟩) (hkt : T kt = some ⟨m1, m2, z2, kk, q2⟩) (het : T et = some ei) (H : Own (B.addR rs) h its) (hD : RawOK B rs) (j : Nat) {b : Nat} (m : List (α × β)) (x : α) (hj : rs[j]? = some (b, mapObj (m.map fun p => (kv p.1, vv p.2))))
    {y : AV} (hy : y = .val (kv x)) (k : K ⟨put tm d (av ((aget m x).getD z)), h⟩) : lookK T K d tm h t (.val (.map (some b))) y false := by
  subst hy
  have hr := H.rawAt hD j hj
  simp only [lookK, aLook, ht, hkt, het, hk.key, true_and, atMap, hr, mapOf_obj, lookNow_typed hk vv]
  cases e : aget m x with
  | none => simpa [e, hz] using k
  | some v => simpa [e, hav] using k
theorem lookok_of {t kt et n1 n2 m1 m2 : Nat} {zz z2 : List Value} {q q2 : Option (List (Nat × TK))} {ei : TI} (hk : KeyV kk kv) (av : β → AV) (hav : ∀ v, constAV (vv v) = av v) (z : β) (hz : constAV (zeroV ei) = av z)
    (ht : T t = some ⟨n1, n2, zz, .map kt et, q⟩) (hkt : T kt = some ⟨m1, m2, z2, kk, q2⟩) (het : T et = some ei) (H : Own (B.addR rs) h its) (hD : RawOK B rs) (j : Nat) {b : Nat} (m : List (α × β)) (x : α) (hj : rs[j]? = some (b, mapObj (m.map fun p => (kv p.1, vv p.2))))
    {y : AV} (hy : y = .val (kv x)) (k : K ⟨put tm d (.tup [av ((aget m x).getD z), .val (.bool (aget m x).isSome)]), h⟩) : lookK T K d tm h t (.val (.map (some b))) y true := by
  subst hy
  have hr := H.rawAt hD j hj
  simp only [lookK, aLook, ht, hkt, het, hk.key, true_and, atMap, hr, mapOf_obj, lookNow_typed hk vv]
  cases e : aget m x with
  | none => simpa [e, hz, abool] using k
  | some v => simpa [e, hav, abool] using k
theorem upd_of' {t kt et n1 n2 m1 m2 : Nat} {zz z2 : List Value} {q q2 : Option (List (Nat × TK))} (hk : KeyV kk kv) (ht : T t = some ⟨n1, n2, zz, .map kt et, q⟩) (hkt : T kt = some ⟨m1, m2, z2, kk, q2⟩)
    (H : Own (B.addR rs) h its) (hD : RawOK B rs) (j : Nat) {b : Nat} (m : List (α × β)) (x : α) (v : β) (hj : rs[j]? = some (b, mapObj (m.map fun p => (kv p.1, vv p.2)))) {y u : AV} (hy : y = .val (kv x)) (hu : fixV u = some (vv v))
    (k : ∀ h', RawOK B (rs.set j (b, mapObj ((aset m x v).map fun p => (kv p.1, vv p.2)))) → Own (B.addR (rs.set j (b, mapObj ((aset m x v).map fun p => (kv p.1, vv p.2))))) h' its → K ⟨put tm d .any, h'⟩) : updK T K d tm h t (.val (.map (some b))) y u := by
  subst hy
  have hr := H.rawAt hD j hj
  simp only [updK, aUpd, ht, hu, hr, hkt, mapOf_obj, hk.key, true_and, updNow_typed hk vv]
  obtain ⟨h1, h2⟩ := H.setRaw hD j hj (mapObj ((aset m x v).map fun p => (kv p.1, vv p.2)))
  exact k _ h1 h2
theorem range_of {t kt et n1 n2 : Nat} {zz : List Value} {q : Option (List (Nat × TK))} (ht : T t = some ⟨n1, n2, zz, .map kt et, q⟩) (H : Own (B.addR rs) h its) (hD : RawOK B rs) (j : Nat) {b : Nat} (m : List (α × β)) (hj : rs[j]? = some (b, mapObj (m.map fun p => (kv p.1, vv p.2))))
    (k : ∀ r h', RawOK B (rs ++ [(r, iterObj b m.length #[])]) → Own (B.addR (rs ++ [(r, iterObj b m.length #[])])) h' its → K ⟨put tm d (.val (.pointer (some ⟨r, 0, none⟩))), h'⟩) : rangeK T K d tm h t (.val (.map (some b))) := by
  have hr := H.rawAt hD j hj
  simp only [rangeK, aRange, ht, hr, mapOf_obj, List.length_map]
  intro r hrn
  obtain ⟨h1, h2⟩ := H.addRaw hD hrn (iterObj b m.length #[])
  exact k r _ h1 h2
theorem iterAt_of (H : Own (B.addR rs) h its) (hD : RawOK B rs) (j i : Nat) {b r : Nat} {seen : Array Nat} (m : List (α × β)) (hj : rs[j]? = some (b, mapObj (m.map fun p => (kv p.1, vv p.2)))) (hi : rs[i]? = some (r, iterObj b m.length seen)) :
    iterAt h (.val (.pointer (some ⟨r, 0, none⟩))) = some (r, b, m.length, seen, m.map fun p => (kv p.1, vv p.2)) := by
  have h1 := H.rawAt hD j hj
  have h2 := H.rawAt hD i hi
  simp only [iterObj] at h2
  simp only [iterAt, h2, h1, mapOf_obj, List.length_map, and_self, if_true]
theorem next_of (ak : α → AV) (hak : ∀ x, constAV (kv x) = ak x) (av : β → AV) (hav : ∀ v, constAV (vv v) = av v) (H : Own (B.addR rs) h its) (hD : RawOK B rs) (j i : Nat) {b r : Nat} {seen : Array Nat} (m : List (α × β)) (hj : rs[j]? = some (b, mapObj (m.map fun p => (kv p.1, vv p.2)))) (hi : rs[i]? = some (r, iterObj b m.length seen))
    (k1 : leftIx m.length seen = [] → K ⟨put tm d (.tup [.val (.bool false)]), h⟩)
    (k2 : ∀ n ∈ leftIx m.length seen, ∀ p, m[n]? = some p → ∀ h', RawOK B (rs.set i (r, iterObj b m.length (seen.push n))) → Own (B.addR (rs.set i (r, iterObj b m.length (seen.push n)))) h' its → K ⟨put tm d (.tup [.val (.bool true), ak p.1, av p.2]), h'⟩) :
    nextK K d tm h (.val (.pointer (some ⟨r, 0, none⟩))) := by
  simp only [nextK, aNext, iterAt_of H hD j i m hj hi]
  refine ⟨k1, fun n hn p hp => ?_⟩
  rw [List.getElem?_map] at hp
  cases e : m[n]? with
  | none => rw [e] at hp; cases hp
  | some p' =>
    rw [e] at hp; cases hp
    obtain ⟨h1, h2⟩ := H.setRaw hD i hi (iterObj b m.length (seen.push n))
    simpa [hak, hav, abool] using k2 n hn p' e _ h1 h2
theorem entry_of (ak : α → AV) (hak : ∀ x, constAV (kv x) = ak x) (av : β → AV) (hav : ∀ v, constAV (vv v) = av v) (H : Own (B.addR rs) h its) (hD : RawOK B rs) (j i : Nat) {b r n : Nat} {seen : Array Nat} (m : List (α × β)) {p : α × β} (hp : m[n]? = some p) (hj : rs[j]? = some (b, mapObj (m.map fun p => (kv p.1, vv p.2)))) (hi : rs[i]? = some (r, iterObj b m.length (seen.push n)))
    (k : K ⟨put tm d (.tup [ak p.1, av p.2]), h⟩) : entryK K d tm h (.val (.pointer (some ⟨r, 0, none⟩))) := by
  simp only [entryK, aEntry, iterAt_of H hD j i m hj hi, Array.back?_push, List.getElem?_map, hp, Option.map_some, hak, hav]
  exact k
end
end Go.Proofs.Ytnenodamppageaa.AM
