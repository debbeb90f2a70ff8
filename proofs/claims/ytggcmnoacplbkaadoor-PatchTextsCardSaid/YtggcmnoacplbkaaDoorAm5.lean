/- The abstract machine, part 5: every operation's abstract answer holds in the model. -/
import Derived.Test.YtggcmnoacplbkaaDoorAm4
namespace Go.Proofs.YtggcmnoacplbkaaDoor.AM
open Go
set_option linter.unusedVariables false
set_option linter.unusedSimpArgs false

section
variable {P : Program} {T : Tab} {g : Gh} {h : Hp} {w : World}

theorem alloc_run {t : Nat} {ti : TI} {i : TypeInfo} {d : TypeDesc} {z : Value} (ht : TIs P t ti i d z) (old : Value) :
    (Instr.alloc t true old).run P w = .ok (.pointer (some ⟨w.heap.size, 0, none⟩)) (w.alloc (.cells z.cells t)) := by
  simp [Instr.alloc, ht.run_zero, newVar, newRow]

theorem store_run (hh : HR g h w) {t : Nat} {ti : TI} {i : TypeInfo} {d : TypeDesc} {z : Value} (ht : TIs P t ti i d z) {b sz r0 c : Nat} {o : Ob} (hb : h b = some o) {r : List AV} (hr : o.rows[r0]? = some r)
    (hsz : o.sz = sz) {x : AV} {v : Value} (hx : VR g x v) (hok : x.okCells = true) (hlen : x.cells.length = ti.size) (hc : c + ti.size ≤ r.length) :
    ∃ w', (storeVar t ⟨b, r0 * sz + c, none⟩ v).run P w = .ok () w' ∧ HR g (h.upd b ⟨sz, o.rows.set r0 (r.take c ++ x.cells ++ r.drop (c + ti.size)), o.ty⟩) w' := by
  obtain ⟨q1, cur, e, ⟨fr, q2, qt⟩, q3, q4⟩ := hh.ob b o hb
  subst hsz
  obtain ⟨l1, l2⟩ := q4.get hr
  rw [Nat.zero_add] at l2
  obtain ⟨x1, x2⟩ := hx.okCells hok
  have hvl : v.cells.toList.length = ti.size := by rw [Array.length_toList]; omega
  have hone : ∀ u ∈ v.cells.toList, u.oneCell' = true := by
    intro u hu
    obtain ⟨j, hj⟩ := List.mem_iff_getElem?.1 hu
    have hj' : j < x.cells.length := by have := (List.getElem?_eq_some_iff.1 hj).1; omega
    obtain ⟨u', e1, e2, _⟩ := x1.get (List.getElem?_eq_getElem hj')
    rw [Nat.zero_add, ← Array.getElem?_toList, hj] at e1
    cases e1; exact e2
  by_cases h0 : ti.size = 0
  · have hv0 : v.cells.toList = [] := List.eq_nil_of_length_eq_zero (by omega)
    have hx0 : x.cells = [] := List.eq_nil_of_length_eq_zero (by omega)
    refine ⟨w, ?_, ?_⟩
    · have hs0 : v.cells.size = 0 := by rw [← Array.length_toList, hv0]; rfl
      simp [storeVar, ht.run_size, h0, hs0, hv0, storeCells]
    · have : o.rows.set r0 (r.take c ++ x.cells ++ r.drop (c + ti.size)) = o.rows := by
        rw [hx0, h0]; simp
        apply List.ext_getElem?
        intro j
        rw [List.getElem?_set]
        split
        · rename_i e1; subst e1; rw [hr]; simp [(List.getElem?_eq_some_iff.1 hr).1]
        · rfl
      rw [this]
      have e2 : h.upd b ⟨o.sz, o.rows, o.ty⟩ = h := by
        refine Hp.ext (fun j => ?_) (fun _ => rfl)
        simp only [Hp.upd]; split
        · rename_i e1; subst e1; exact hb.symm
        · rfl
      rw [e2]; exact hh
  · have hbound : r0 * o.sz + r.length ≤ cur.size := by
      rcases l2.bound with e1 | e1
      · rw [e1] at hc; simp at hc; omega
      · exact e1
    have hrun := run_storeCells_th P b (r0 * o.sz + c) e fr v.cells.toList 0 cur w q2 qt (by omega) hone
    simp only [Nat.add_zero] at hrun
    have hsp : r0 * o.sz + c + v.cells.toList.length ≤ cur.size := by omega
    refine ⟨_, ?_, HR.set hh hb q2 (splice_size cur _ _ hsp) ?_ o.ty id⟩
    · have hs1 : v.cells.size = ti.size := by omega
      have hsz1 : (sizeOf t).run P w = .ok ti.size w := ht.run_size w
      unfold storeVar
      simp only [Sem.run_bind, hsz1, Result.andThen_ok, hs1, ne_eq, not_true_eq_false, if_false]
      simpa using hrun
    · rw [← hlen]
      refine RowsAt.splice q4 hr (by omega) ?_ ?_
      · intro k hk
        rw [splice_get cur _ _ hsp, if_neg (by omega)]
      · refine CellsAt.of_get fun k y hy => ?_
        obtain ⟨u, e1, e2, e3⟩ := x1.get hy
        have hk := (List.getElem?_eq_some_iff.1 hy).1
        refine ⟨u, ?_, e2, e3⟩
        rw [splice_get cur _ _ hsp, if_pos (by omega), Nat.add_sub_cancel_left]
        rw [Nat.zero_add] at e1
        simpa using e1

theorem repl_get (zc : Array Value) (sz n k : Nat) (hz : zc.size = sz) (hk : k < n * sz) : ((Array.range (n * sz)).map (zc[· % zc.size]!))[k]? = zc[k % sz]? := by
  have h0 : 0 < sz := by rcases Nat.eq_zero_or_pos sz with e | e; subst e; omega; exact e
  have hm : k % sz < zc.size := by rw [hz]; exact Nat.mod_lt _ h0
  simp [hk, hz]
  rw [getElem!_pos zc (k % sz) hm]
  exact (Array.getElem?_eq_getElem hm).symm

theorem repl_rows {ti : TI} {t : Nat} {i : TypeInfo} {d : TypeDesc} {z : Value} (ht : TIs P t ti i d z) (n m : Nat) (hm : m ≤ n) :
    RowsAt g ((Array.range (n * ti.size)).map (z.cells[· % z.cells.size]!)) ti.size 0 (List.replicate m (ti.zero.map .val)) := by
  obtain ⟨z1, z2⟩ := zero_cells (g := g) ht
  refine RowsAt.of_get fun j r hr => ?_
  rw [List.getElem?_replicate] at hr
  split at hr <;> cases hr
  rename_i hj
  have hl : (ti.zero.map AV.val).length = ti.size := by rw [← z2, ht.zsize]
  refine ⟨hl, z1.congr fun k hk => ?_⟩
  rw [hl] at hk
  have hlt : j * ti.size + k < n * ti.size := by
    have : (j + 1) * ti.size ≤ n * ti.size := Nat.mul_le_mul_right _ (by omega)
    rw [Nat.add_mul] at this; omega
  rw [Nat.zero_add, repl_get _ _ _ _ ht.zsize hlt, Nat.zero_add, Nat.mul_comm j, Nat.mul_add_mod, Nat.mod_eq_of_lt hk]

theorem fill_rows {sz : Nat} (hsz : 0 < sz) : ∀ {parts : List (Nat × AV)} {vs : List (Nat × Value)} {c : Array Value} {rows rows' : List (List AV)}, RowsAt g c sz 0 rows → c.size = rows.length * sz → PRs g parts vs → arows sz rows parts = some rows' →
    ∃ c', Instr.fill (fun i => some (i * sz, sz)) c vs = some c' ∧ RowsAt g c' sz 0 rows' ∧ c'.size = c.size
  | [], [], c, rows, rows', hr, hc, _, h => by simp only [arows] at h; cases h; exact ⟨c, rfl, hr, rfl⟩
  | (i, x) :: parts, (i', v) :: vs, c, rows, rows', hr, hc, hp, h => by
    simp only [PRs] at hp
    obtain ⟨rfl, hx, hp⟩ := hp
    simp only [arows] at h
    split at h <;> try cases h
    rename_i hcond
    obtain ⟨h1, h2, h3⟩ := hcond
    obtain ⟨x1, x2⟩ := hx.okCells h1
    have hvs : v.cells.size = sz := by omega
    have hle : i * sz + sz ≤ c.size := by
      have : (i + 1) * sz ≤ rows.length * sz := Nat.mul_le_mul_right _ h3
      rw [Nat.add_mul] at this; omega
    have hget := laid_get c (i * sz) v.cells (by omega)
    have hrow : rows[i]? = some rows[i] := List.getElem?_eq_getElem h3
    have hrl := (hr.get hrow).1
    have hsp := RowsAt.splice (c' := laid c (i * sz) v.cells) (co := 0) (xs := x.cells) hr hrow (by omega) (fun k hk => by rw [hget, if_neg (by omega)])
      (CellsAt.of_get fun k y hy => by
        obtain ⟨u, e1, e2, e3⟩ := x1.get hy
        have hk := (List.getElem?_eq_some_iff.1 hy).1
        refine ⟨u, ?_, e2, e3⟩
        rw [hget, if_pos (by omega), show i * sz + 0 + k - i * sz = k from by omega]
        rwa [Nat.zero_add] at e1)
    have e1 : rows[i].take 0 ++ x.cells ++ rows[i].drop (0 + x.cells.length) = x.cells := by simp; omega
    rw [e1] at hsp
    obtain ⟨c', f1, f2, f3⟩ := fill_rows hsz hsp (by rw [laid_size, hc, List.length_set]) hp h
    refine ⟨c', ?_, f2, by rw [f3, laid_size]⟩
    simp only [Instr.fill]
    have n1 : (v.cells.size ≠ sz) = False := by simp [hvs]
    have n2 : (i * sz + v.cells.size > c.size) = False := by simp; omega
    simp only [n1, n2, decide_false, Bool.or_self, Bool.false_eq_true, if_false]
    exact f1
  | [], _ :: _, _, _, _, _, _, h, _ => by simp [PRs] at h
  | _ :: _, [], _, _, _, _, _, h, _ => by simp [PRs] at h

theorem aSrc_run (hT : TabOK P T) (hh : HR g h w) {tx : Nat} {tix : TI} {i : TypeInfo} {d : TypeDesc} {z : Value} (ht : TIs P tx tix i d z) {sz : Nat} {x : AV} {v : Value} (hx : VR g x v) {xs : List (List AV)} (hs : aSrc sz tix.kind x h = some xs) :
    ∃ news, Src P sz tx v xs.length news w ∧ ∀ (c' : Array Value) (o' : Nat), (∀ (j : Nat) u, news[j]? = some u → c'[o' + j]? = some u) → RowsAt g c' sz o' xs := by
  unfold aSrc at hs
  split at hs <;> try cases hs
  · rename_i e sz' rows hk
    split at hs <;> cases hs
    rename_i hsz; subst hsz
    have hu := ht.und; rw [ht.sl hk] at hu
    simp only [VR] at hx
    obtain ⟨A, cap, rfl, hcap, hx⟩ := hx
    rcases hx with rfl | ⟨a, c, e', fr, rfl, hsp, hfz, hrows⟩
    · cases A with
      | none => exact ⟨[], Src.ofNil w hu cap, fun _ _ _ => by simp [RowsAt]⟩
      | some a => exact ⟨[], Src.ofSlice w hu a 0 cap [] (by simp) (by simp) (by simp), fun _ _ _ => by simp [RowsAt]⟩
    · obtain ⟨news, n1, n2, n3, n4⟩ := hrows.list
      refine ⟨news, Src.ofSlice w hu a _ cap news n1 (fun j u hu => ?_) n2, n4⟩
      rw [add_none a hsp, cell_of (hh.fz _ _ hfz)]
      exact n3 j u hu
  · rename_i e b sz' off len hk
    split at hs <;> try cases hs
    rename_i o ho
    split at hs <;> cases hs
    rename_i hc
    obtain ⟨rfl, hosz, hle⟩ := hc
    have hu := ht.und; rw [ht.sl hk] at hu
    simp only [VR] at hx
    obtain ⟨a, cap, rfl, hcap, hsp, hx⟩ := hx
    have hlen : ((o.rows.drop off).take len).length = len := by simp; omega
    rw [hlen]
    by_cases h0 : len = 0
    · subst h0
      refine ⟨[], Src.ofSlice w hu a 0 cap [] (by simp) (by simp) (by simp), fun _ _ _ => by simp [RowsAt]⟩
    · rcases hx with hx | ⟨rfl, e', n, hn, hle'⟩
      · omega
      · obtain ⟨q1, cur, e2, ⟨fr, q2, qt⟩, q3, q4⟩ := hh.ob b o ho
        rw [hosz] at q4
        have q5 := (q4.drop off).take len
        obtain ⟨news, n1, n2, n3, n4⟩ := q5.list
        rw [hlen] at n1
        refine ⟨news, Src.ofSlice w hu _ _ cap news n1 (fun j u hu => ?_) n2, n4⟩
        rw [add_none _ rfl, cell_of q2]
        have := n3 j u hu
        rwa [Nat.zero_add] at this
  · rename_i e hk
    have hu := ht.und; rw [ht.sl hk] at hu
    simp only [VR] at hx
    subst hx
    exact ⟨[], Src.ofNil w hu 0, fun _ _ _ => by simp [RowsAt]⟩
  · rename_i s hk
    split at hs <;> cases hs
    rename_i hsz; subst hsz
    have hu := ht.und; rw [ht.str hk] at hu
    simp only [VR] at hx
    subst hx
    have hl : (s.data.toList.map fun b => [abyte b.toNat]).length = s.size := by simp
    rw [hl]
    refine ⟨byteCells s, Src.ofString w hu s, fun c' o' hc => RowsAt.of_get fun j r hr => ?_⟩
    rw [List.getElem?_map] at hr
    cases hb : s.data.toList[j]? with
    | none => rw [hb] at hr; cases hr
    | some b =>
      rw [hb] at hr; cases hr
      refine ⟨rfl, ?_⟩
      simp only [CellsAt]
      refine ⟨⟨.int .u8 b.toNat, ?_, rfl, by simp [VR, abyte]⟩, trivial⟩
      have := hc j (.int .u8 b.toNat) (by rw [byteCells, List.getElem?_map, hb]; rfl)
      simpa using this

theorem append_room {t tx ty e e2 : TypeId} {i : TypeInfo} (ht : P.underlying t = some (.slice e)) (hi : P.info? e = some i) {b sLen sCap : Nat} {x : Value} {n : Nat} {news : List Value} (hs : Src P i.size tx x n news w)
    {cur : Array Value} {fr : Nat × Nat} (hb : w.heap[b]? = some (.cells cur e2 fr)) (hth : Thawed fr cur.size) (hroom : sLen + n ≤ sCap) (hfit : sLen * i.size + news.length ≤ cur.size) :
    (Builtin.append_ #[t, tx] ty #[.slice (some ⟨b, 0, none⟩) sLen sCap, x]).run P w = .ok (.slice (some ⟨b, 0, none⟩) (sLen + n) sCap)
      (w.setRow b (cur.toList.take (sLen * i.size) ++ news ++ cur.toList.drop (sLen * i.size + news.length)).toArray) := by
  have hst := run_storeCells_th P b (sLen * i.size) e2 fr news 0 cur w hb hth (by omega) hs.one
  simp only [Nat.add_zero] at hst
  rcases hs.kind with ⟨e', hk⟩ | hk <;> simp [Builtin.append_, run_underlying ht, run_underlying hk, sizeOf, typeInfo, hi, hs.len, hroom, hs.cells, Addr.add_lit, hst]

theorem grown_hr (hh : HR g h w) {e : TypeId} {ei : TI} {i : TypeInfo} {d : TypeDesc} {z : Value} (ht : TIs P e ei i d z) {olds news : List Value} {rs xs : List (List AV)} (need old : Nat) (ty : Option (Nat × Nat)) (hty : ∀ n, TyOK (some (e, n)) ty) (hl : (olds ++ news).length = need * i.size)
    (hneed : need = rs.length + xs.length) (hs0 : 0 < ei.size)
    (ho : ∀ (c' : Array Value) (o' : Nat), (∀ (j : Nat) u, olds[j]? = some u → c'[o' + j]? = some u) → RowsAt g c' ei.size o' rs) (hol : olds.length = rs.length * ei.size)
    (hn : ∀ (c' : Array Value) (o' : Nat), (∀ (j : Nat) u, news[j]? = some u → c'[o' + j]? = some u) → RowsAt g c' ei.size o' xs) :
    ∃ g', g.le g' ∧ VR g' (.osl w.heap.size ei.size 0 need) (.slice (some ⟨w.heap.size, 0, none⟩) need (grownCap w need old e)) ∧
      HR g' (h.upd w.heap.size ⟨ei.size, rs ++ xs, ty⟩) (w.drew.alloc (.cells ((olds ++ news).toArray ++ Builtin.zeroCells z.cells (grownCap w need old e - need)) e)) := by
  have hge := grownCap_ge w need old e
  generalize hc : (olds ++ news).toArray ++ Builtin.zeroCells z.cells (grownCap w need old e - need) = c
  have hsz : c.size = grownCap w need old e * ei.size := by
    rw [← hc, Array.size_append, size_zeroCells, List.size_toArray, hl, ht.size, ht.zsize, ← Nat.add_mul]
    congr 1; omega
  have hget : ∀ (j : Nat) u, (olds ++ news)[j]? = some u → c[j]? = some u := by
    intro j u hu
    have hj := (List.getElem?_eq_some_iff.1 hu).1
    rw [← hc, Array.getElem?_append, if_pos (by simpa using hj)]
    simpa using hu
  have hr : RowsAt g c ei.size 0 (rs ++ xs) := by
    refine RowsAt.append (ho c 0 fun j u hu => ?_) (hn c _ fun j u hu => ?_)
    · rw [Nat.zero_add]; refine hget j u ?_
      rw [List.getElem?_append, if_pos (List.getElem?_eq_some_iff.1 hu).1]; exact hu
    · rw [Nat.zero_add]; refine hget _ u ?_
      rw [List.getElem?_append, if_neg (by omega), hol, Nat.add_sub_cancel_left]; exact hu
  have hd : HR g h w.drew := hh.drew
  obtain ⟨a1, a2⟩ := hd.alloc (e := e) hr ty (hty _)
  refine ⟨_, a1, ?_, a2⟩
  simp only [VR]
  refine ⟨_, _, rfl, hge, rfl, .inr ⟨by simp, e, c.size, ?_, ?_⟩⟩
  · show (g.new w.heap.size (e, c.size)).shp w.heap.size = _
    simp [Gh.new]
  · rw [Nat.zero_add, hsz]; exact Nat.le_refl _

theorem aAppend_run (hT : TabOK P T) (hh : HR g h w) {t tx : Nat} {s x : AV} {u v : Value} (hu : VR g s u) (hv : VR g x v) {k : AV → Hp → Prop} (hk : aAppend T t tx s x h k) {ty : TypeId} :
    ∃ r w' g' y h', (Builtin.append_ #[t, tx] ty #[u, v]).run P w = .ok r w' ∧ g.le g' ∧ VR g' y r ∧ HR g' h' w' ∧ k y h' := by
  unfold aAppend at hk
  split at hk <;> try exact hk.elim
  rename_i ti tix hti htix
  split at hk <;> try exact hk.elim
  rename_i e hke
  split at hk <;> try exact hk.elim
  rename_i ei hei
  split at hk <;> try exact hk.elim
  rename_i rs ob xs hdst hsrc
  obtain ⟨hbytes, hs0, hb0, hk⟩ := hk
  obtain ⟨i1, d1, z1, ht1⟩ := hT.get hti
  obtain ⟨i2, d2, z2, ht2⟩ := hT.get htix
  obtain ⟨i3, d3, z3, ht3⟩ := hT.get hei
  have hund := ht1.und; rw [ht1.sl hke] at hund
  rw [← ht3.size] at hsrc
  obtain ⟨news, src, hnews⟩ := aSrc_run hT hh ht2 hv hsrc
  have hsmall : rs.length + xs.length ≤ 140737488355328 := by
    refine Nat.le_trans ?_ hbytes
    exact Nat.le_mul_of_pos_right _ hb0
  have hnl : news.length = xs.length * ei.size := by rw [← ht3.size]; exact src.newsLen
  rw [ht3.size] at hnews
  unfold aDst at hdst
  split at hdst
  · cases hdst
    simp only [VR] at hu
    subst hu
    by_cases hx0 : xs = []
    · subst hx0
      have hn0 : news = [] := List.eq_nil_of_length_eq_zero (by rw [hnl]; simp)
      subst hn0
      refine ⟨.slice none 0 0, w, g, anil, h, ?_, Gh.le.refl g, by simp [VR, anil], hh, hk.1 rfl⟩
      have hsr := src
      simp only [List.length_nil] at hsr
      rcases src.kind with ⟨e', hk'⟩ | hk' <;> simp [Builtin.append_, run_underlying hund, run_underlying hk', sizeOf, typeInfo, ht3.info, hsr.len, hsr.cells]
    · have hpos : 0 < xs.length := List.length_pos_iff.2 hx0
      have hrun := run_append_grow_src (P := P) w t tx ty e i3 z3 hund ht3.info ht3.zero none 0 0 [] (by simp [run_firstCells_none]) v xs.length news src (by omega) (by omega) (by
        rw [ht3.bytes]; exact growslice_fits (by omega) (by simpa using hbytes))
      simp only [Nat.zero_add] at hrun
      have hl : ([] ++ news).length = xs.length * i3.size := by rw [List.nil_append]; exact src.newsLen
      obtain ⟨g', a1, a2, a3⟩ := grown_hr hh ht3 (olds := []) (rs := []) xs.length 0 (some (e, 0)) (fun n => TyOK.row e n) hl (by simp) hs0 (fun _ _ _ => by simp [RowsAt]) (by simp) hnews
      exact ⟨_, _, g', _, _, hrun, a1, a2, a3, hk.2 hx0 _ hh.fresh.1⟩
  · rename_i b sz' len
    split at hdst <;> try cases hdst
    rename_i o ho
    split at hdst <;> cases hdst
    rename_i hc
    obtain ⟨rfl, hosz, hle⟩ := hc
    have hrl : (o.rows.take len).length = len := by simp; omega
    rw [hrl] at hbytes hsmall hk
    simp only [VR] at hu
    obtain ⟨a, cap, rfl, hcap, hsp, hu⟩ := hu
    obtain ⟨q1, cur, e2, ⟨fr, q2, qt⟩, q3, q4⟩ := hh.ob b o ho
    rw [hosz] at q4
    have q5 := q4.take len
    obtain ⟨olds, o1, o2, o3, o4⟩ := q5.list
    rw [hrl] at o1
    by_cases hroom : len + xs.length ≤ cap ∧ cap ≠ 0
    · obtain ⟨hroom, hcap0⟩ := hroom
      rcases hu with hu | ⟨rfl, e', n, hn, hle'⟩
      · exact absurd hu hcap0
      · rw [q3] at hn; cases hn
        simp only [Nat.zero_mul, Nat.zero_add] at hle' ⊢
        have hfit : len * i3.size + news.length ≤ cur.size := by
          rw [ht3.size, hnl, ← Nat.add_mul]
          exact Nat.le_trans (Nat.mul_le_mul_right _ hroom) hle'
        have hrun := append_room (ty := ty) hund ht3.info src q2 qt hroom hfit
        refine ⟨_, _, g, _, (h.del b).upd b ⟨ei.size, o.rows.take len ++ xs, keepTy e o.ty⟩, hrun, Gh.le.refl g, ?_, ?_, hk b (by simp [Hp.del])⟩
        · simp only [VR]
          exact ⟨_, cap, rfl, hroom, rfl, .inr ⟨by simp, e2, cur.size, q3, by simpa using hle'⟩⟩
        · have e3 : (h.del b).upd b ⟨ei.size, o.rows.take len ++ xs, keepTy e o.ty⟩ = h.upd b ⟨ei.size, o.rows.take len ++ xs, keepTy e o.ty⟩ := by
            exact Hp.ext (fun j => by simp only [Hp.upd, Hp.del]; split <;> rfl) (fun _ => rfl)
          rw [e3]
          refine HR.set hh ho q2 (splice_size cur news _ hfit) (RowsAt.append ?_ ?_) (keepTy e o.ty) TyOK.keep
          · refine q5.congr fun k hk => ?_
            rw [Nat.zero_add, splice_get cur news _ hfit, if_neg]
            rw [hrl] at hk; rw [ht3.size]; omega
          · refine hnews _ _ fun j u hu => ?_
            have hj := (List.getElem?_eq_some_iff.1 hu).1
            rw [Nat.zero_add, hrl, splice_get cur news _ hfit, ht3.size, if_pos (by omega), Nat.add_sub_cancel_left]
            exact hu
    · by_cases hz : len + xs.length ≤ cap
      · have hcap0 : cap = 0 := by
          rcases Nat.eq_zero_or_pos cap with e | e
          · exact e
          · exact absurd ⟨hz, by omega⟩ hroom
        have hl0 : len = 0 := by omega
        have hx0 : xs = [] := List.eq_nil_of_length_eq_zero (by omega)
        subst hl0; subst hx0
        have hn0 : news = [] := List.eq_nil_of_length_eq_zero (by rw [hnl]; simp)
        subst hn0
        have hsr := src
        simp only [List.length_nil] at hsr
        refine ⟨.slice (some a) 0 cap, w, g, _, (h.del b).upd b ⟨ei.size, o.rows.take 0 ++ [], keepTy e o.ty⟩, ?_, Gh.le.refl g, ?_, ?_, hk b (by simp [Hp.del])⟩
        · rcases src.kind with ⟨e', hk'⟩ | hk' <;> simp [Builtin.append_, run_underlying hund, run_underlying hk', sizeOf, typeInfo, ht3.info, hsr.len, hsr.cells, storeCells]
        · simp only [VR]
          exact ⟨a, cap, by simp, by simp, hsp, .inl hcap0⟩
        · have e3 : (h.del b).upd b ⟨ei.size, o.rows.take 0 ++ [], keepTy e o.ty⟩ = h.upd b ⟨ei.size, [], keepTy e o.ty⟩ := by
            exact Hp.ext (fun j => by simp only [Hp.upd, Hp.del]; split <;> rfl) (fun _ => rfl)
          rw [e3]
          refine { hh with ob := fun x y hx => ?_ }
          simp only [Hp.upd] at hx
          split at hx
          · rename_i e1; subst e1; cases hx
            exact ⟨⟨q1.1, q1.2.keep⟩, cur, e2, ⟨fr, q2, qt⟩, q3, by simp [RowsAt]⟩
          · exact hh.ob x y hx
      · have hfirst : (Builtin.firstCells i3.size len (.slice (some a) len cap)).run P w.drew = .ok olds.toArray w.drew := by
          rcases hu with hu | ⟨rfl, e', n, hn, hle'⟩
          · have : len = 0 := by omega
            subst this
            have : olds = [] := List.eq_nil_of_length_eq_zero (by simpa using o1)
            subst this
            exact run_firstCells_some w.drew i3.size 0 a 0 cap [] (by simp) (by simp)
          · refine run_firstCells_some w.drew i3.size len _ len cap olds (by rw [o1, ht3.size]) fun j u hu => ?_
            rw [add_none _ rfl]
            show w.cell? _ = _
            rw [cell_of q2]
            simpa using o3 j u hu
        have hrun := run_append_grow_src (P := P) w t tx ty e i3 z3 hund ht3.info ht3.zero (some a) len cap olds hfirst v xs.length news src (by omega) (by omega) (by
          rw [ht3.bytes]; exact growslice_fits (by omega) hbytes)
        obtain ⟨g', a1, a2, a3⟩ := grown_hr (hh.del b) ht3 (olds := olds) (news := news) (rs := o.rows.take len) (xs := xs) (len + xs.length) cap (keepTy e o.ty) (fun n => TyOK.keep') (by
          rw [List.length_append, o1, hnl, ht3.size, Nat.add_mul]) (by rw [hrl]) hs0 o4 (by rw [o1, hrl]) hnews
        exact ⟨_, _, g', _, _, hrun, a1, a2, a3, hk _ (hh.del b).fresh.1⟩
  · cases hdst

end
end Go.Proofs.YtggcmnoacplbkaaDoor.AM
