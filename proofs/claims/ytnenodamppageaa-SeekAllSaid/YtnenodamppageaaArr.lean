/- Arrays: parts of a row that is an array's. -/
import Derived.Test.YtnenodamppageaaTab
import Derived.Test.YtnenodamppageaaMap
namespace Go.Proofs.Ytnenodamppageaa.AM
open Go
variable {α : Type} {f : α → AV} {x : List α} {i : Nat} {v : α}
theorem arrAt (h : x[i]? = some v) : x[i * 1]? = some v := by simpa using h
theorem arrLen (h : i < x.length) : i * 1 + 1 ≤ (x.map f).length := by rw [List.length_map]; omega
theorem arrSet (h : i < x.length) : (x.map f).take (i * 1) ++ [f v] ++ (x.map f).drop (i * 1 + 1) = (x.set i v).map f := by
  rw [List.map_set, List.set_eq_take_append_cons_drop]
  simp [h]
theorem arrAll {r xs : List AV} {n : Nat} (h : r.length = n) : r.take 0 ++ xs ++ r.drop (0 + n) = xs := by
  rw [List.drop_of_length_le (by omega)]; simp
theorem arrLe {n : Nat} (h : x.length = n) : 0 + n ≤ (x.map f).length := by rw [List.length_map]; omega
theorem arrEq {n : Nat} (h : x.length = n) : (x.map f).length = n := by rw [List.length_map]; exact h
theorem arrTake {n : Nat} (h : x.length = n) : (x.map f).take n = x.map f := List.take_of_length_le (by rw [List.length_map]; omega)
theorem arrTake0 {n : Nat} (h : x.length = n) : x.take n = x := List.take_of_length_le (by omega)
/-! ### arrays of arrays -/
section
variable {α : Type} {g : α → List AV} {l : List α} {n sz : Nat}
def flat2 (g : α → List AV) (l : List α) : List AV := (l.map g).flatten
theorem flat2_len : ∀ {l : List α}, (∀ v ∈ l, (g v).length = sz) → (flat2 g l).length = l.length * sz
  | [], _ => by simp [flat2]
  | v :: l, h => by
    have h1 := h v (by simp)
    have h2 := flat2_len (l := l) fun u hu => h u (by simp [hu])
    simp only [flat2, List.map_cons, List.flatten_cons, List.length_append, List.length_cons, Nat.add_mul] at h2 ⊢
    rw [h2, h1]; omega
theorem flat2_get : ∀ {l : List α} {i : Nat} {v : α}, (∀ v ∈ l, (g v).length = sz) → l[i]? = some v → ((flat2 g l).drop (i * sz)).take sz = g v
  | u :: l, 0, v, h, e => by
    simp at e; subst e
    have h1 := h u (by simp)
    simp only [flat2, List.map_cons, List.flatten_cons, Nat.zero_mul, List.drop_zero]
    rw [List.take_append_of_le_length (by omega), List.take_of_length_le (by omega)]
  | u :: l, i + 1, v, h, e => by
    have h1 := h u (by simp)
    have := flat2_get (l := l) (i := i) (v := v) (fun w hw => h w (by simp [hw])) (by simpa using e)
    simp only [flat2, List.map_cons, List.flatten_cons] at this ⊢
    rw [Nat.add_mul, Nat.one_mul, Nat.add_comm, ← List.drop_drop, List.drop_append_of_le_length (by omega), List.drop_of_length_le (l := g u) (by omega), List.nil_append]
    exact this
/-- an array of arrays, by an index -/
theorem idx2 {T : Tab} {tabT : Option TI} {e n1 n2 m2 : Nat} {zz z2 : List Value} {q1 q2 : Option (List (Nat × TK))} {k : TK} {ik : IntKind} {i : Int} {v : α} (_ : tabT = some (TI.mk n1 n2 zz (.arr n e) q1)) (he : T e = some ⟨sz, m2, z2, k, q2⟩) (hk : k.agg = true) (h0 : 0 ≤ i) (hn : i.toNat < n) (hl : l.length = n) (hs : ∀ v ∈ l, (g v).length = sz) (hv : l[i.toNat]? = some v) :
    indexT (some ⟨n1, n2, zz, .arr n e, q1⟩) T (.agg (flat2 g l)) (.val (.int ik i)) = some (.agg (g v)) := by
  have e1 := flat2_len hs
  have e2 := flat2_get hs hv
  have h3 : i.toNat * sz + sz ≤ (flat2 g l).length := by
    rw [e1, hl, ← Nat.succ_mul]; exact Nat.mul_le_mul_right _ hn
  simp only [indexT, atInt, h0, if_true, he, hn, apart, hk, h3, e2]
theorem afill_arr {T : Tab} {e : Nat} {ei : TI} (he : T e = some ei) : ∀ (parts : List (Nat × AV)) (l : List (List AV)), (∀ r ∈ l, r.length = ei.size) → (∀ p ∈ parts, p.1 < l.length ∧ p.2.okCells = true ∧ p.2.cells.length = ei.size) →
    afill (aplace T (.arr n e)) l.flatten parts = some (parts.foldl (fun (l : List (List AV)) p => l.set p.1 p.2.cells) l).flatten
  | [], l, _, _ => rfl
  | (i, x) :: ps, l, hl, hp => by
    obtain ⟨h1, h2, h3⟩ := hp (i, x) (by simp)
    simp only at h1 h2 h3
    have ef : flat2 id l = l.flatten := by simp [flat2]
    have e1 := flat2_len (g := id) (l := l) (sz := ei.size) hl
    rw [ef] at e1
    have hle : i * ei.size + ei.size ≤ l.flatten.length := by rw [e1, ← Nat.succ_mul]; exact Nat.mul_le_mul_right _ h1
    have key : l.flatten.take (i * ei.size) ++ x.cells ++ l.flatten.drop (i * ei.size + ei.size) = (l.set i x.cells).flatten := by
      clear e1 ef hle hp
      induction l generalizing i with
      | nil => simp at h1
      | cons r l ih =>
        have hr := hl r (by simp)
        cases i with
        | zero =>
          simp only [Nat.zero_mul, List.take_zero, List.nil_append, Nat.zero_add, List.flatten_cons, List.set_cons_zero]
          rw [List.drop_append_of_le_length (by omega), List.drop_of_length_le (by omega), List.nil_append]
        | succ i =>
          simp only [List.flatten_cons, List.set_cons_succ]
          rw [← ih i (fun u hu => hl u (by simp [hu])) (by simpa using h1)]
          rw [Nat.add_mul, Nat.one_mul, Nat.add_comm (i * ei.size) ei.size, Nat.add_assoc, ← hr]
          rw [List.take_length_add_append, List.drop_length_add_append]
          simp only [List.append_assoc]
          rw [Nat.add_comm (i * r.length) r.length]
    simp only [afill, aplace, he]
    rw [if_pos ⟨h2, h3, hle⟩, key]
    refine afill_arr he ps _ ?_ ?_
    · intro r hr
      rcases List.mem_or_eq_of_mem_set hr with h | h
      · exact hl r h
      · rw [h]; exact h3
    · intro p hp'
      have := hp p (by simp [hp'])
      simpa using this
/-- an array, built of its parts -/
theorem build2 {T : Tab} {tabT : Option TI} {e n1 n2 m2 : Nat} {zz z2 : List Value} {q1 q2 : Option (List (Nat × TK))} {k : TK} (l : List α) {parts : List (Nat × AV)} (zl : List (List AV)) (_ : tabT = some (TI.mk n1 n2 zz (.arr n e) q1)) (he : T e = some ⟨sz, m2, z2, k, q2⟩)
    (hz : zz.map AV.val = zl.flatten) (hzl : ∀ r ∈ zl, r.length = sz) (hp : ∀ p ∈ parts, p.1 < zl.length ∧ p.2.okCells = true ∧ p.2.cells.length = sz) (hl : parts.foldl (fun (l : List (List AV)) p => l.set p.1 p.2.cells) zl = l.map g) :
    buildT (some ⟨n1, n2, zz, .arr n e, q1⟩) T parts = some (.agg (flat2 g l)) := by
  have h1 : aplaces T (.arr n e) = true := by simp [aplaces, he]
  simp only [buildT, h1, if_true]
  rw [hz, afill_arr he parts zl hzl hp, hl]; rfl
theorem flat2_all (hl : l.length = n) (hs : ∀ v ∈ l, (g v).length = sz) {m : Nat} (hm : n * sz = m) : (flat2 g l).length = m := by rw [flat2_len hs, hl, hm]
end
end Go.Proofs.Ytnenodamppageaa.AM
