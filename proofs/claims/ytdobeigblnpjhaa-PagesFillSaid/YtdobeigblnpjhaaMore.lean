/- The abstract machine, more: what stands within an owned block, told anew; rows that are gathered by append. -/
import Derived.Test.YtdobeigblnpjhaaEval
namespace Go.Proofs.Ytdobeigblnpjhaa.AM
open Go
set_option linter.unusedVariables false
set_option linter.unusedSimpArgs false

theorem CellsAt.set {g g' : Gh} {c : Array Value} {o : Nat} {xs : List AV} {k : Nat} {x x' : AV} (hg : g.le g') (h : CellsAt g c o xs) (hk : xs[k]? = some x) (hx : ∀ v, VR g x v → VR g' x' v) : CellsAt g' c o (xs.set k x') :=
  CellsAt.of_get fun j y hy => by
    rw [List.getElem?_set] at hy
    split at hy
    · rename_i e; subst e
      split at hy <;> cases hy
      obtain ⟨v, h1, h2, h3⟩ := h.get hk
      exact ⟨v, h1, h2, hx v h3⟩
    · obtain ⟨v, h1, h2, h3⟩ := h.get hy
      exact ⟨v, h1, h2, h3.mono hg _ _⟩

/-- A cell of an owned block, told anew. -/
theorem Retell.cell {tm : List AV} {h h' : Hp} {b i k : Nat} {o : Ob} {row : List AV} {x x' : AV} (hb : h b = some o) (hb' : h' b = some o) (hr : o.rows[i]? = some row) (hk : row[k]? = some x) (hs : Shift x h x' h') :
    Retell ⟨tm, h⟩ ⟨tm, h'.upd b ⟨o.sz, o.rows.set i (row.set k x')⟩⟩ := by
  intro D g a w rl
  obtain ⟨q1, c, e, q2, q3, q4⟩ := rl.hr.ob b o hb
  obtain ⟨l1, l2⟩ := q4.get hr
  obtain ⟨v0, v1, v2, v3⟩ := l2.get hk
  obtain ⟨g', c1, c2, c3⟩ := hs g w v0 rl.hr v3
  refine ⟨g', c1, rl.tm.mono c1, ⟨c2.os, c2.tape, c2.output, c2.size, c2.fz, c2.shp, fun b2 o2 h2 => ?_⟩, rl.df⟩
  by_cases e2 : b2 = b
  · subst e2
    simp only [Hp.upd_same] at h2; cases h2
    obtain ⟨p1, c', e', p2, p3, p4⟩ := c2.ob b2 o hb'
    refine ⟨p1, c', e', p2, p3, RowsAt.of_get fun j r hj => ?_⟩
    have ec : c' = c := by rw [p2] at q2; cases q2; rfl
    subst ec
    rw [List.getElem?_set] at hj
    split at hj
    · rename_i ej; subst ej
      split at hj <;> cases hj
      refine ⟨by simpa using l1, CellsAt.of_get fun m y hy => ?_⟩
      rw [List.getElem?_set] at hy
      split at hy
      · rename_i em; subst em
        split at hy <;> cases hy
        exact ⟨v0, v1, v2, c3⟩
      · exact (p4.get hr).2.get hy
    · exact p4.get hj
  · simp only [Hp.upd_ne _ _ e2] at h2
    exact c2.ob b2 o2 h2

theorem Hp.upd_upd (h : Hp) (b : Nat) (o o' : Ob) : (h.upd b o).upd b o' = h.upd b o' := by
  funext k; simp only [Hp.upd]; split <;> rfl
theorem Hp.upd_del {h : Hp} {b : Nat} {o : Ob} (hb : h b = none) : (h.upd b o).del b = h := by
  funext k; simp only [Hp.upd, Hp.del]; split
  · rename_i e; rw [e, hb]
  · rfl
theorem Hp.del_ne (h : Hp) {b k : Nat} (e : k ≠ b) : h.del b k = h k := by simp [Hp.del, e]
theorem Hp.sub.del {h0 h : Hp} (k : h0.sub h) {b : Nat} (hb : h0 b = Option.none) : h0.sub (h.del b) := fun x o hx => by
  rw [Hp.del_ne]; exact k x o hx
  intro e; subst e; rw [hb] at hx; cases hx

/-- Rows gathered so far: none yet, or in a block of their own. -/
def Acc (h0 : Hp) (sz : Nat) (rows : List (List AV)) (x : AV) (h : Hp) : Prop :=
  h0.sub h ∧ ((rows = [] ∧ x = anil) ∨ ∃ b, h0 b = none ∧ x = .osl b sz 0 rows.length ∧ h b = some ⟨sz, rows⟩)

theorem Acc.nil (h0 : Hp) (sz : Nat) : Acc h0 sz [] anil h0 := ⟨Hp.sub.refl _, .inl ⟨rfl, rfl⟩⟩
theorem Acc.new {h0 h : Hp} {sz : Nat} {rows : List (List AV)} {x : AV} (a : Acc h0 sz rows x h) {b : Nat} (o : Ob) (hb : h b = none) : Acc h0 sz rows x (h.upd b o) := by
  refine ⟨a.1.upd o (a.1.none hb), a.2.imp id ?_⟩
  rintro ⟨b', h1, h2, h3⟩
  exact ⟨b', h1, h2, Hp.upd_old hb h3⟩
theorem Acc.del {h0 h : Hp} {sz : Nat} {rows : List (List AV)} {x : AV} (a : Acc h0 sz rows x h) {b : Nat} (hb : h0 b = none) (hx : ∀ b', x = .osl b' sz 0 rows.length → b' ≠ b) : Acc h0 sz rows x (h.del b) := by
  refine ⟨a.1.del hb, a.2.imp id ?_⟩
  rintro ⟨b', h1, h2, h3⟩
  exact ⟨b', h1, h2, by rw [Hp.del_ne _ (hx b' h2)]; exact h3⟩

section
variable {K : St → Prop} {d : Option Nat} {tm : List AV}
/-- One append of rows to those gathered. -/
theorem appR_acc {ei : TI} {sz : Nat} {h0 h : Hp} {rows ys : List (List AV)} {x : AV} (a : Acc h0 sz rows x h) (hsz : ei.size = sz) (h0sz : 0 < sz) (hb : 0 < ei.bytes) (hle : (rows.length + ys.length) * ei.bytes ≤ 140737488355328)
    (k : ∀ x' h', Acc h0 sz (rows ++ ys) x' h' → (∀ b o, h b = some o → (∀ n, x ≠ .osl b sz 0 n) → h' b = some o) → (∀ b n, x' = .osl b sz 0 n → ∀ o, h b = some o → x = .osl b sz 0 rows.length) → K ⟨put tm d x', h'⟩) : appR ei K d tm h (aDst ei.size x h) (some ys) := by
  subst hsz
  obtain ⟨hs, ⟨rfl, rfl⟩ | ⟨b, hb0, rfl, hbr⟩⟩ := a
  · simp only [aDst, anil, appR_nil]
    refine ⟨by simpa using hle, h0sz, hb, fun e => ?_, fun e b hbn => ?_⟩
    · subst e; exact k anil h ⟨hs, .inl ⟨rfl, rfl⟩⟩ (fun b o h1 _ => h1) (fun b n hx => by cases hx)
    · refine k _ _ ⟨hs.upd _ (hs.none hbn), .inr ⟨b, hs.none hbn, by simp, by simp⟩⟩ (fun b' o h1 _ => Hp.upd_old hbn h1) (fun b' n hx o h1 => ?_)
      cases hx; rw [hbn] at h1; cases h1
  · have e1 : aDst ei.size (.osl b ei.size 0 rows.length) h = some (rows, some b) := by simp [aDst, hbr]
    rw [e1, appR_some]
    refine ⟨hle, h0sz, hb, fun b' hb' => ?_⟩
    have hs' : h0.sub (h.del b) := hs.del hb0
    refine k _ _ ⟨hs'.upd _ (hs'.none hb'), .inr ⟨b', hs'.none hb', by simp, by simp⟩⟩ (fun b2 o h1 h2 => ?_) (fun b2 n hx o h1 => ?_)
    · have hne : b2 ≠ b := fun e => h2 rows.length (by rw [e])
      exact Hp.upd_old hb' (by rw [Hp.del_ne _ hne]; exact h1)
    · cases hx
      by_cases e : b' = b
      · rw [e]
      · rw [Hp.del_ne _ e] at hb'; rw [hb'] at h1; cases h1
end

/-- What was gathered, told as what never changes. -/
theorem Acc.freeze {h0 h : Hp} {sz : Nat} {rows : List (List AV)} {x : AV} (a : Acc h0 sz rows x h) : ∃ h', Shift x h (.isl sz rows) h' ∧ h0.sub h' := by
  obtain ⟨hs, ⟨rfl, rfl⟩ | ⟨b, hb0, rfl, hbr⟩⟩ := a
  · exact ⟨h, Shift.nil h sz, hs⟩
  · refine ⟨h.del b, ?_, hs.del hb0⟩
    have := Shift.freeze (off := 0) (len := rows.length) hbr rfl (by simp)
    simpa using this

theorem Acc.ne {h0 h : Hp} {sz : Nat} {rows : List (List AV)} {x : AV} (a : Acc h0 sz rows x h) {b : Nat} (hb : h b = none) (n : Nat) : x ≠ .osl b sz 0 n := by
  rintro rfl
  obtain ⟨_, ⟨_, h2⟩ | ⟨b', _, h2, h3⟩⟩ := a
  · cases h2
  · cases h2; rw [hb] at h3; cases h3

/-- A cell of the last row gathered, frozen. -/
theorem Acc.cell {h0 h : Hp} {sz sz2 : Nat} {rows rs : List (List AV)} {row : List AV} {x : AV} {k b2 : Nat} {tm : List AV} (a : Acc h0 sz (rows ++ [row]) x h) (hk : row[k]? = some (.osl b2 sz2 0 rs.length)) (hb : h b2 = some ⟨sz2, rs⟩) (h02 : h0 b2 = none)
    (hne : sz2 ≠ sz) : ∃ h', Retell ⟨tm, h⟩ ⟨tm, h'⟩ ∧ Acc h0 sz (rows ++ [row.set k (.isl sz2 rs)]) x h' := by
  obtain ⟨hs, ⟨h1, _⟩ | ⟨b, hb0, rfl, hbr⟩⟩ := a
  · simp at h1
  · have hbb : b ≠ b2 := by
      intro e; subst e
      rw [hbr] at hb; cases hb; exact hne rfl
    have sh := Shift.freeze (off := 0) (len := rs.length) hb rfl (by simp)
    simp only [List.drop_zero, List.take_length] at sh
    have hr : (Ob.mk sz (rows ++ [row])).rows[rows.length]? = some row := by simp
    refine ⟨_, Retell.cell hbr (by rw [Hp.del_ne _ hbb]; exact hbr) hr hk sh, (hs.del h02).upd _ ?_, .inr ⟨b, hb0, by simp, by simp⟩⟩
    exact hb0

section
variable {P : Program} {K : St → Prop} {X : AV → Hp → Prop} {d : Option Nat} {tm : List AV} {h : Hp}
/-- a pure call with a flat result, arguments lent -/
theorem calls_lent {n : Nat} {args args' : List AV} (x : AV) (hp : APure P n args' x) (hf : flat x = true) (hl : Lents h args args') (hk : K ⟨put tm d x, h⟩) : calls P K X d tm h n args :=
  calls_of (hp.lent hf hl) (by rintro e h' ⟨rfl, rfl⟩; exact hk)
/-- a call, its argument told anew ahead -/
theorem ACalls.shift {n : Nat} {x x' : AV} {h' : Hp} {Q : AE → Hp → Prop} (hs : Shift x h x' h') (hc : ACalls P n [x'] h' Q) : ACalls P n [x] h Q := by
  refine ⟨hc.1, fun g w vs hv hh => ?_⟩
  match e : vs.toList, hv with
  | [v], hv =>
    simp only [VRs, and_true] at hv
    obtain ⟨g', c1, c2, c3⟩ := hs g w v hh hv
    refine (hc.2 g' w vs (by rw [e]; simp only [VRs, and_true]; exact c3) c2).mono ?_
    rintro e' w' ⟨g2, h2, E, a, b⟩
    exact ⟨g2, h2, E, c1.trans a, b⟩
  | [], hv => simp [VRs] at hv
  | _ :: _ :: _, hv => simp [VRs] at hv
theorem calls_frozen {n : Nat} {b sz len : Nat} {rows : List (List AV)} (x : AV) (hb : h b = some ⟨sz, rows⟩) (hlen : len = rows.length) (hp : APure P n [.isl sz rows] x) (hk : K ⟨put tm d x, h.del b⟩) : calls P K X d tm h n [.osl b sz 0 len] := by
  subst hlen
  have sh := Shift.freeze (off := 0) (len := rows.length) hb rfl (by simp)
  simp only [List.drop_zero, List.take_length] at sh
  exact calls_of (ACalls.shift sh (hp (h.del b))) (by rintro e h' ⟨rfl, rfl⟩; exact hk)
end
/-- A nil cell of the last row gathered, told as a slice without rows. -/
theorem Acc.cellNil {h0 h : Hp} {sz : Nat} {rows : List (List AV)} {row : List AV} {x : AV} {k sz2 : Nat} {tm : List AV} (a : Acc h0 sz (rows ++ [row]) x h) (hk : row[k]? = some anil) :
    ∃ h', Retell ⟨tm, h⟩ ⟨tm, h'⟩ ∧ Acc h0 sz (rows ++ [row.set k (.isl sz2 [])]) x h' := by
  obtain ⟨hs, ⟨h1, _⟩ | ⟨b, hb0, rfl, hbr⟩⟩ := a
  · simp at h1
  · have hr : (Ob.mk sz (rows ++ [row])).rows[rows.length]? = some row := by simp
    exact ⟨_, Retell.cell hbr hbr hr hk (Shift.nil h sz2), hs.upd _ hb0, .inr ⟨b, hb0, by simp, by simp⟩⟩
theorem clearK_nil {T : Tab} {K : St → Prop} {d : Option Nat} {tm : List AV} {h : Hp} {n1 n2 ee : Nat} {zz : List Value} {qq : Option (List (Nat × TK))} : clearK (some ⟨n1, n2, zz, .sl ee, qq⟩) T K d tm h anil = K ⟨put tm d (.tup []), h⟩ := rfl
theorem sub6 {h : Hp} {b0 b1 b2 b3 b4 b5 : Nat} {o0 o1 o2 o3 o4 o5 : Ob} (h0 : h b0 = none) (h1 : (h.upd b0 o0) b1 = none) (h2 : ((h.upd b0 o0).upd b1 o1) b2 = none) (h3 : (((h.upd b0 o0).upd b1 o1).upd b2 o2) b3 = none)
    (h4 : ((((h.upd b0 o0).upd b1 o1).upd b2 o2).upd b3 o3) b4 = none) (h5 : (((((h.upd b0 o0).upd b1 o1).upd b2 o2).upd b3 o3).upd b4 o4) b5 = none) : h.sub ((((((h.upd b0 o0).upd b1 o1).upd b2 o2).upd b3 o3).upd b4 o4).upd b5 o5) := by
  have k0 := (Hp.sub.refl h).upd o0 h0
  have k1 := k0.upd o1 (k0.none h1)
  have k2 := k1.upd o2 (k1.none h2)
  have k3 := k2.upd o3 (k2.none h3)
  have k4 := k3.upd o4 (k3.none h4)
  exact k4.upd o5 (k4.none h5)
end Go.Proofs.Ytdobeigblnpjhaa.AM
