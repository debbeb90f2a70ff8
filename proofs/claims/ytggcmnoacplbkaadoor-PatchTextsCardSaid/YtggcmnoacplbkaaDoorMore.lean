/- The abstract machine, more: what stands within an owned block, told anew; rows that are gathered by append. -/
import Derived.Test.YtggcmnoacplbkaaDoorEval
namespace Go.Proofs.YtggcmnoacplbkaaDoor.AM
open Go
set_option linter.unusedVariables false
set_option linter.unusedSimpArgs false

theorem CellsAt.set {g g' : Gh} {c : Array Value} {o : Nat} {xs : List AV} {k : Nat} {x x' : AV} (hg : g.le g') (h : CellsAt g c o xs) (hk : xs[k]? = some x) (hx : ∀ v, VR g x v → VR g' x' v) : CellsAt g' c o (xs.set k x') :=
  CellsAt.of_get fun j y hy => by
    rw [List.getElem?_set] at hy
    split at hy
    · rename_i e; subst e
      split at hy <;> cases hy
      obtain ⟨v, h1, h2, h3⟩ := h.get hk
      exact ⟨v, h1, h2, hx v h3⟩
    · obtain ⟨v, h1, h2, h3⟩ := h.get hy
      exact ⟨v, h1, h2, h3.mono hg _ _⟩

/-- A cell of an owned block, told anew. -/
theorem Retell.cell {tm : List AV} {h h' : Hp} {b i k : Nat} {o : Ob} {row : List AV} {x x' : AV} (hb : h b = some o) (hb' : h' b = some o) (hr : o.rows[i]? = some row) (hk : row[k]? = some x) (hs : Shift x h x' h') :
    Retell ⟨tm, h⟩ ⟨tm, h'.upd b ⟨o.sz, o.rows.set i (row.set k x'), o.ty⟩⟩ := by
  intro D g a w rl
  obtain ⟨q1, c, e, ⟨fr, q2, qt⟩, q3, q4⟩ := rl.hr.ob b o hb
  obtain ⟨l1, l2⟩ := q4.get hr
  obtain ⟨v0, v1, v2, v3⟩ := l2.get hk
  obtain ⟨g', c1, c2, c3⟩ := hs g w v0 rl.hr v3
  refine ⟨g', c1, rl.tm.mono c1, ⟨c2.os, c2.tape, c2.output, c2.size, c2.fz, c2.shp, fun b2 o2 h2 => ?_, c2.gl, c2.raw⟩, rl.df.mono c1⟩
  by_cases e2 : b2 = b
  · subst e2
    simp only [Hp.upd_same] at h2; cases h2
    obtain ⟨p1, c', e', p2, p3, p4⟩ := c2.ob b2 o hb'
    refine ⟨p1, c', e', p2, p3, RowsAt.of_get fun j r hj => ?_⟩
    have ec : c' = c := by obtain ⟨_, p2, _⟩ := p2; rw [p2] at q2; cases q2; rfl
    subst ec
    rw [List.getElem?_set] at hj
    split at hj
    · rename_i ej; subst ej
      split at hj <;> cases hj
      refine ⟨by simpa using l1, CellsAt.of_get fun m y hy => ?_⟩
      rw [List.getElem?_set] at hy
      split at hy
      · rename_i em; subst em
        split at hy <;> cases hy
        exact ⟨v0, v1, v2, c3⟩
      · exact (p4.get hr).2.get hy
    · exact p4.get hj
  · simp only [Hp.upd_ne _ _ e2] at h2
    exact c2.ob b2 o2 h2

theorem Hp.upd_upd (h : Hp) (b : Nat) (o o' : Ob) : (h.upd b o).upd b o' = h.upd b o' := by
  exact Hp.ext (fun k => by simp only [Hp.upd]; split <;> rfl) (fun _ => rfl)
theorem Hp.upd_del {h : Hp} {b : Nat} {o : Ob} (hb : h b = none) : (h.upd b o).del b = h := by
  refine Hp.ext (fun k => ?_) (fun _ => rfl)
  simp only [Hp.upd, Hp.del]; split
  · rename_i e; rw [e, hb]
  · rfl
theorem Hp.del_ne (h : Hp) {b k : Nat} (e : k ≠ b) : h.del b k = h k := by simp [Hp.del, e]
theorem Hp.sub.del {h0 h : Hp} (k : h0.sub h) {b : Nat} (hb : h0 b = Option.none) : h0.sub (h.del b) := by
  refine ⟨fun x o hx => ?_, k.r⟩
  rw [Hp.del_ne]; exact k x o hx
  intro e; subst e; rw [hb] at hx; cases hx

end Go.Proofs.YtggcmnoacplbkaaDoor.AM
