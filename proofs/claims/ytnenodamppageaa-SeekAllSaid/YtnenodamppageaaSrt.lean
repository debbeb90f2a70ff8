/- slices.Sort of a slice of texts that is owned: the shelf's contract, told for owned things. -/
import Derived.Test.YtnenodamppageaaMap
import Derived.Test.YtnenodamppageaaShelf
import Derived.Sort.OwnSorted
namespace Go.Proofs.Ytnenodamppageaa.AM
open Go
set_option linter.unusedVariables false
set_option linter.unusedSimpArgs false
set_option linter.unusedSectionVars false

/-- texts, sorted -/
def sortB (l : List ByteArray) : List ByteArray := ((l.map fun s => s.data.toList).mergeSort fun x y => decide (x ≤ y)).map fun l => ⟨l.toArray⟩
theorem sortB_length (l : List ByteArray) : (sortB l).length = l.length := by simp [sortB]

theorem HR.sorted {g : Gh} {h : Hp} {w : World} (k : HR g h w) {b n : Nat} {os : Array Obj} {o : Ob} (hb : h b = some o) (d : Array (List UInt8)) {cur : Array Value} {e : TypeId} {fr : Nat × Nat} (hc : w.heap[b]? = some (.cells cur e fr)) {rows : List (List AV)}
    (hr : RowsAt g (Sort.putCells Go.Proofs.encStr 0 d cur) o.sz 0 rows) : HR g (h.upd b ⟨o.sz, rows, o.ty⟩) (Sort.grow (Sort.putRow Go.Proofs.encStr (Sort.ahead w n) b 0 d) os) := by
  obtain ⟨q1, c0, e0, ⟨fr0, q2, qt⟩, q3, q4⟩ := k.ob b o hb
  rw [hc] at q2; cases q2
  have hg := Go.grownBy_sorted (w := w) (g := b) (n := n) (os := os) d
  have same := Go.heap_sorted (n := n) (os := os) d hc
  have hsz : (Sort.putCells Go.Proofs.encStr 0 d cur).size = cur.size := by simp [Sort.putCells]
  have old : ∀ x (y : Obj), x ≠ b → w.heap[x]? = some y → (Sort.grow (Sort.putRow Go.Proofs.encStr (Sort.ahead w n) b 0 d) os).heap[x]? = some y := fun x y hx hy => by
    rw [hg.block x (Array.getElem?_eq_some_iff.1 hy).1 (fun e => hx (by cases e; rfl))]; exact hy
  constructor
  · exact hg.os.trans k.os
  · exact hg.tape.trans k.tape
  · exact hg.output.trans k.output
  · exact Nat.le_trans k.size hg.size
  · intro x y hx
    refine old x y ?_ (k.fz x y hx)
    rintro rfl; rw [q1.1] at hx; cases hx
  · intro x y hx
    have h1 := k.shp x y hx
    by_cases e1 : x = b
    · subst e1
      simp only [World.shape?, hc] at h1
      simp only [World.shape?, same, hsz]; exact h1
    · cases e2 : w.heap[x]? with
      | none => simp [World.shape?, e2] at h1
      | some y' =>
        simp only [World.shape?, e2] at h1
        simp only [World.shape?, old x y' e1 e2]; exact h1
  · intro x y hx
    by_cases e1 : x = b
    · subst e1
      simp only [Hp.upd_same] at hx; cases hx
      exact ⟨q1, _, e, ⟨fr, same, by rw [hsz]; exact qt⟩, by rw [hsz]; exact q3, hr⟩
    · rw [Hp.upd_ne _ _ e1] at hx
      obtain ⟨a1, c2, e2, a2, a3, a4⟩ := k.ob x y hx
      exact ⟨a1, c2, e2, a2.of fun o ho => old x o e1 ho, a3, a4⟩
  · exact k.gl
  · intro x y hx
    obtain ⟨⟨a1, a2⟩, a3⟩ := k.raw x y hx
    exact ⟨⟨old x y (k.raw_ne hb hx) a1, a2⟩, a3⟩

theorem sort_ok {h0 h : Hp} {its : List Itm} {ty : Option (Nat × Nat)} (H : Own h0 h its) (j : Nat) {x : AV} {l : List ByteArray} (hj : its[j]? = some ⟨x, false, 1, l.map encStr, ty⟩) (hn : l.length < 4611686018427387904) :
    ACalls Try.prog 25 [x] h fun e h' => e = .ret (.tup []) ∧ Own h0 h' (its.set j ⟨x, false, 1, (sortB l).map encStr, ty⟩) := by
  refine ⟨⟨_, Try.func25, by kernel_rfl, by kernel_rfl⟩, fun g w vs hv hh => ?_⟩
  obtain ⟨v, rfl, hx⟩ : ∃ v, vs = #[v] ∧ VR g x v := by
    match e : vs.toList, hv with
    | [u], hv =>
      simp only [VRs, and_true] at hv
      exact ⟨u, by apply Array.ext'; rw [e], hv⟩
    | [], hv => simp [VRs] at hv
    | _ :: _ :: _, hv => simp [VRs] at hv
  have hnil : ∀ it : Itm, it = ⟨x, false, 1, l.map encStr, ty⟩ → l = [] → its.set j ⟨x, false, 1, (sortB l).map encStr, ty⟩ = its := fun it _ e => by
    subst e
    apply List.ext_getElem?
    intro i
    rw [List.getElem?_set]
    split
    · rename_i q; subst q
      have := (List.getElem?_eq_some_iff.1 hj).1
      simp only [this, if_true]
      rw [hj]; simp [sortB]
    · rfl
  by_cases h0' : l = []
  · have key : ∃ p cap, v = .slice p 0 cap := by
      rcases H.cases j hj with ⟨rfl, _⟩ | ⟨b, tl, rfl, hb⟩
      · simp only [VR, anil] at hx; exact ⟨none, 0, hx⟩
      · simp only [VR] at hx
        obtain ⟨a, cap, rfl, _⟩ := hx
        exact ⟨some a, cap, by rw [h0']; rfl⟩
    obtain ⟨p, cap, rfl⟩ := key
    refine (Try.slices_Sort_string_none p cap w).mono ?_
    rintro e w' ⟨rfl, rfl⟩
    refine ⟨g, h, .ret (.tup []), Gh.le.refl g, hh, ⟨rfl, ?_⟩, by simp only [VR]; exact ⟨#[], rfl, by simp [VRs]⟩⟩
    rw [hnil _ rfl h0']; exact H
  · obtain ⟨b, tl, hbx, hb, hb0, _⟩ := H.blkOf j hj (by simpa using h0')
    simp only [Itm.blk, Bool.false_eq_true, if_false, List.length_map] at hbx
    subst hbx
    obtain ⟨q1, cur, e, ⟨fr, q2, qt⟩, q3, q4⟩ := hh.ob b _ hb
    simp only [VR] at hx
    obtain ⟨a, cap, rfl, hcap, hs, hx⟩ := hx
    have hl0 : 0 < l.length := List.length_pos_iff.2 h0'
    rcases hx with hx | ⟨rfl, e', n, hn', hle⟩
    · omega
    have hcur : ∀ (i : Nat) (s : ByteArray), l[i]? = some s → cur[i]? = some (Value.string s) := fun i s hi => by
      have hr : ((l.map encStr) ++ tl)[i]? = some (encStr s) := by
        rw [List.getElem?_append, if_pos (by simpa using (List.getElem?_eq_some_iff.1 hi).1)]; simp [hi]
      obtain ⟨_, l2⟩ := q4.get hr
      simp only [encStr, CellsAt, Nat.zero_add, Nat.mul_one] at l2
      obtain ⟨⟨v, v1, v2, v3⟩, _⟩ := l2
      simp only [VR] at v3
      rw [v3] at v1; exact v1
    have hsz : l.length ≤ cur.size := by
      have := hcur (l.length - 1) l[l.length - 1] (List.getElem?_eq_getElem (by omega))
      have := (Array.getElem?_eq_some_iff.1 this).1
      omega
    have eb : ∀ s : ByteArray, (⟨s.data.toList.toArray⟩ : ByteArray) = s := fun s => by cases s; simp
    have hH : Sort.Holds Go.Proofs.encStr w b 0 (l.map fun s => s.data.toList).toArray := by
      intro i hi
      have hi' : i < l.length := by simpa using hi
      refine ⟨?_, ?_⟩
      · have := hcur i l[i] (List.getElem?_eq_getElem hi')
        simp only [World.cell?, q2, Nat.zero_add]
        simp only [Option.isSome_none, Bool.false_eq_true, if_false]
        rw [this]
        simp [hi', Go.Proofs.encStr, eb]
      · obtain ⟨lo, hi2⟩ := fr
        simp only [World.frozen?, q2, Bool.and_eq_false_imp, decide_eq_true_eq, decide_eq_false_iff_not]
        intro h2
        rcases qt with qt | qt <;> simp only at qt <;> omega
    have hcalls := Try.slices_Sort_string b 0 cap (l.map fun s => s.data.toList) w hH (Array.getElem?_eq_some_iff.1 q2).1 (by simpa using hn)
    simp only [List.length_map] at hcalls
    simp only [Nat.zero_mul]
    refine hcalls.mono ?_
    rintro e2 w' ⟨rfl, m, os, rfl⟩
    obtain ⟨ts, hts⟩ : ∃ ts, ts = (l.map fun s => s.data.toList).mergeSort (fun x y => decide (x ≤ y)) := ⟨_, rfl⟩
    have htl : ts.length = l.length := by rw [hts]; simp
    have hsort : sortB l = ts.map fun l => ⟨l.toArray⟩ := by rw [hts]; rfl
    rw [← hts]
    have htake := Go.take_putCells cur ts (by omega)
    have hrows : RowsAt g (Sort.putCells Go.Proofs.encStr 0 ts.toArray cur) 1 0 ((sortB l).map encStr ++ tl) := by
      have hold : ∀ k, l.length ≤ k → (Sort.putCells Go.Proofs.encStr 0 ts.toArray cur)[k]? = cur[k]? := fun k hk => by
        by_cases hk2 : k < cur.size
        · simp [Sort.putCells, hk2, htl, show ¬ k < l.length from by omega]
        · rw [Array.getElem?_eq_none (by simp [Sort.putCells]; omega), Array.getElem?_eq_none (by omega)]
      refine RowsAt.append (RowsAt.of_get fun i r hr => ?_) ?_
      · rw [List.getElem?_map] at hr
        cases e3 : (sortB l)[i]? with
        | none => rw [e3] at hr; cases hr
        | some s =>
          rw [e3] at hr; cases hr
          rw [hsort, List.getElem?_map] at e3
          cases e4 : ts[i]? with
          | none => rw [e4] at e3; cases e3
          | some t =>
            rw [e4] at e3; cases e3
            have hlt := (List.getElem?_eq_some_iff.1 e4).1
            refine ⟨rfl, ?_⟩
            simp only [encStr, CellsAt, Nat.zero_add, Nat.mul_one]
            refine ⟨⟨.string ⟨t.toArray⟩, ?_, rfl, by simp [VR]⟩, trivial⟩
            have := congrArg (fun q : List Value => q[i]?) htake
            simp only [List.getElem?_take_of_lt hlt, List.getElem?_map, e4, Option.map_some, Array.getElem?_toList] at this
            exact this
      · have h2 := q4.drop (l.map encStr).length
        rw [List.drop_left] at h2
        simp only [List.length_map, Nat.mul_one, Nat.zero_add] at h2 ⊢
        rw [sortB_length]
        exact h2.congr fun k hk => hold _ (by omega)
    refine ⟨g, _, .ret (.tup []), Gh.le.refl g, hh.sorted hb ts.toArray q2 hrows, ⟨rfl, ?_⟩, by simp only [VR]; exact ⟨#[], rfl, by simp [VRs]⟩⟩
    refine H.rows j hj (b := b) (rows' := (sortB l).map encStr) (by simp [Itm.blk]) hb0 (by simp) (by simp [sortB_length])
end Go.Proofs.Ytnenodamppageaa.AM
