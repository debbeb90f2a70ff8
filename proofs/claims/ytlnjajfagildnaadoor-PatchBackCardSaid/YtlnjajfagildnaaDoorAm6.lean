/- The abstract machine, part 6: every operation's abstract answer holds in the model. -/
import Derived.Test.YtlnjajfagildnaaDoorAm5
import Derived.Great.BuildSlice
namespace Go.Proofs.YtlnjajfagildnaaDoor.AM
open Go
set_option linter.unusedVariables false
set_option linter.unusedSimpArgs false

section
variable {P : Program} {T : Tab}

theorem nilCmp_run (hT : TabOK P T) {op : BinOp} {t : Nat} {x : AV} {ox y : Operand} {g : Gh} {h : Hp} {k : AV → Hp → Prop} {u : Value} (hx : VR g x u) {a : Act} (hk : nilCmp T op t x y h k) {w : World} :
    ∃ b, (do eqGuard op t ox y u (a.eval y); binOp op t u (a.eval y) : Sem Value).run P w = .ok (.bool b) w ∧ k (abool b) h := by
  unfold nilCmp at hk
  split at hk <;> try exact hk.elim
  rename_i ti hti
  obtain ⟨i, d, z, ht⟩ := hT.get hti
  split at hk <;> try exact hk.elim
  all_goals
    rename_i e sz rows hke
    have hu := ht.und; rw [ht.sl hke] at hu
    simp only [VR] at hx
    obtain ⟨A, cap, rfl, hcap, hx⟩ := hx
    have hr := run_eql (P := P) (w := w) (t := t) (u := .slice A rows.length cap) (v := .slice none 0 0) ox (.const (.slice none 0 0)) (by simp) (by simp) (by intro op; cases op <;> simp [eqGuard]) (by simp [binOp]) (eqIn_sl_nil _ hu A _ _)
    have hA : A.isNone = true → rows = [] := by
      intro e
      rcases hx with hx | ⟨aa, _, _, _, rfl, _⟩
      · exact hx
      · simp at e
  · refine ⟨A.isNone, hr.1, ?_⟩
    cases e : A.isNone with
    | true => exact hk.1 (hA e)
    | false => exact hk.2
  · refine ⟨!A.isNone, hr.2, ?_⟩
    cases e : A.isNone with
    | true => exact hk.1 (hA e)
    | false => exact hk.2

theorem aText_run (hT : TabOK P T) {g : Gh} {h : Hp} {w : World} (hh : HR g h w) {s d : Nat} {x z : AV} {u : Value} (hx : VR g x u) (hz : aText T s d x h = some z) :
    ∃ b, z = astr b ∧ (convert s d u).run P w = .ok (.string b) w := by
  unfold aText at hz
  split at hz <;> try cases hz
  rename_i si di hsi hdi
  split at hz <;> try cases hz
  rename_i e hke hkd
  split at hz <;> try cases hz
  rename_i ei hei
  split at hz <;> try cases hz
  rename_i rows hki hsrc
  split at hz <;> try cases hz
  rename_i l hl
  obtain ⟨i1, d1, z1, ht1⟩ := hT.get hsi
  obtain ⟨i2, d2, z2, ht2⟩ := hT.get hdi
  obtain ⟨i3, d3, z3, ht3⟩ := hT.get hei
  have hu1 := ht1.und; rw [ht1.sl hke] at hu1
  have hu2 := ht2.und; rw [ht2.str hkd] at hu2
  have hu3 := ht3.und; rw [ht3.int hki] at hu3
  obtain ⟨news, src, hnews⟩ := aSrc_run hT hh ht1 hx hsrc
  refine ⟨_, rfl, ?_⟩
  have hn : news.length = rows.length := by have := src.newsLen; simpa using this
  -- the bytes
  have key : ∀ (rows : List (List AV)) (l : List UInt8) (c : Array Value) (o : Nat), RowsAt g c 1 o rows → bytesOf rows = some l → ∃ ns : List Int, ns.length = rows.length ∧ (ns.map fun n => UInt8.ofNat n.toNat) = l ∧ ∀ j n, ns[j]? = some n → c[o + j]? = some (.int .u8 n) := by
    intro rows
    induction rows with
    | nil => intro l c o _ h; simp [bytesOf] at h; subst h; exact ⟨[], rfl, rfl, by simp⟩
    | cons r rs ih =>
      intro l c o hr h
      simp only [RowsAt] at hr
      unfold bytesOf at h
      split at h <;> rename_i heq
      · cases heq
      · rename_i n rs' 
        cases heq
        split at h <;> cases h
        rename_i l' hl'
        obtain ⟨ns, a1, a2, a3⟩ := ih l' c (o + 1) hr.2.2 hl'
        have := hr.2.1
        simp only [CellsAt] at this
        obtain ⟨⟨v, v1, v2, v3⟩, _⟩ := this
        simp only [VR] at v3; subst v3
        refine ⟨n :: ns, by simp [a1], by simp [a2], fun j m hj => ?_⟩
        cases j with
        | zero => simp at hj; subst hj; simpa using v1
        | succ j =>
          have := a3 j m (by simpa using hj)
          rwa [Nat.add_assoc, Nat.add_comm 1 j] at this
      · cases h
  obtain ⟨ns, n1, n2, n3⟩ := key rows l news.toArray 0 (hnews _ 0 fun j v hj => by simpa using hj) hl
  -- the value
  have hnv : news = ns.map (Value.int .u8) := by
    apply List.ext_getElem?
    intro j
    rw [List.getElem?_map]
    cases e : ns[j]? with
    | none =>
      have := List.getElem?_eq_none_iff.1 e
      simp; omega
    | some n => have := n3 j n e; simpa using this
  have hslice : ∃ A cap, u = .slice A rows.length cap ∧ (A = none → rows = []) := by
    unfold aSrc at hsrc
    rw [hke] at hsrc
    split at hsrc <;> try cases hsrc
    · split at hsrc <;> cases hsrc
      simp only [VR] at hx
      obtain ⟨A, cap, rfl, _, hx⟩ := hx
      refine ⟨A, cap, rfl, ?_⟩
      rintro rfl
      rcases hx with hx | ⟨_, _, _, _, hx, _⟩
      · exact hx
      · cases hx
    · split at hsrc <;> try cases hsrc
      split at hsrc <;> cases hsrc
      rename_i hc
      simp only [VR] at hx
      obtain ⟨a, cap, rfl, _⟩ := hx
      refine ⟨some a, cap, ?_, fun e => by cases e⟩
      congr 1
      simp; omega
    · simp only [VR] at hx
      exact ⟨none, 0, by rw [hx]; rfl, fun _ => rfl⟩
    · rename_i heq _
      exact absurd ‹TK.sl e = TK.str› (by simp)
  obtain ⟨A, cap, rfl, hnone⟩ := hslice
  cases A with
  | none =>
    have hr1 := hnone rfl
    subst hr1
    simp [bytesOf] at hl
    subst hl
    rw [run_convert_bytes_nil w s e hu1 hu3 _ _ d hu2]
    rfl
  | some a =>
    rw [run_convert_bytes_string w s d e (some a) rows.length cap hu1 hu3 hu2]
    have hload : (loadCells a rows.length).run P w = .ok (ns.map (Value.int .u8)).toArray w := by
      have := src.cells
      rw [hnv] at this
      simpa [Builtin.firstCells] using this
    rw [run_bytesToString w a rows.length cap ns hload, foldl_push_bytes, n2]
    simp [ByteArray.empty, ByteArray.emptyWithCapacity]
    rfl

theorem aClear_run (hT : TabOK P T) {g : Gh} {h : Hp} {w : World} (hh : HR g h w) {t : Nat} {x : AV} {u : Value} (hx : VR g x u) {k : AV → Hp → Prop} (hk : aClear T t x h k) {ty : TypeId} :
    ∃ w' h', (Builtin.clear_ #[t] ty #[u]).run P w = .ok (.tuple #[]) w' ∧ HR g h' w' ∧ k (.tup []) h' := by
  unfold aClear at hk
  split at hk <;> try exact hk.elim
  rename_i ti hti
  obtain ⟨i, d, z, ht⟩ := hT.get hti
  split at hk <;> try exact hk.elim
  · rename_i e b sz off len hke
    split at hk <;> try exact hk.elim
    rename_i ei o hei hb
    obtain ⟨h1, h2, h3, h4⟩ := hk
    obtain ⟨i2, d2, z2, ht2⟩ := hT.get hei
    have hu := ht.und; rw [ht.sl hke] at hu
    simp only [VR] at hx
    obtain ⟨a, cap, rfl, hcap, hs, hx⟩ := hx
    by_cases h0 : len = 0
    · subst h0
      refine ⟨w, h, by cases cap <;> simp [Builtin.clear_, run_underlying hu], hh, ?_⟩
      have : h.upd b ⟨sz, o.rows.take off ++ (List.replicate 0 (ei.zero.map .val) ++ o.rows.drop (off + 0)), o.ty⟩ = h := by
        funext j
        simp only [Hp.upd]
        split
        · rename_i e1; subst e1; rw [hb]
          simp [← h1]
        · rfl
      rw [this] at h4
      exact h4
    · rcases hx with hx | ⟨rfl, e', n, hn, hle⟩
      · omega
      · obtain ⟨q1, cur, e2, q2, q3, q4⟩ := hh.ob b o hb
        rw [q3] at hn; cases hn
        rw [h1] at q4
        have hzl : (Builtin.zeroCells z2.cells len).toList.length = len * sz := by rw [Array.length_toList, size_zeroCells, ht2.zsize, h2]
        have hfit : off * sz + (Builtin.zeroCells z2.cells len).toList.length ≤ cur.size := by
          rw [hzl]
          refine Nat.le_trans ?_ hle
          rw [← Nat.add_mul]; exact Nat.mul_le_mul_right _ (by omega)
        have hzrows : RowsAt g (Builtin.zeroCells z2.cells len) ei.size 0 (List.replicate len (ei.zero.map .val)) := by
          have := repl_rows (g := g) ht2 len len (Nat.le_refl _)
          unfold Builtin.zeroCells
          rw [ht2.zsize]
          rwa [ht2.zsize] at this
        obtain ⟨zs, z1, z2', z3, z4⟩ := hzrows.list
        have hone : ∀ v ∈ (Builtin.zeroCells z2.cells len).toList, v.oneCell' = true := by
          intro v hv
          obtain ⟨j, hj⟩ := List.mem_iff_getElem?.1 hv
          have hjl : j < zs.length := by
            have := (List.getElem?_eq_some_iff.1 hj).1
            rw [hzl] at this
            rw [z1, List.length_replicate, h2]; exact this
          have := z3 j _ (List.getElem?_eq_getElem hjl)
          rw [Nat.zero_add, ← Array.getElem?_toList, hj] at this
          cases this
          exact z2' _ (List.getElem_mem hjl)
        have hst := run_storeCells_at P b (off * sz) _ _ 0 cur w q2 (by simpa using hfit) hone
        simp only [Nat.add_zero] at hst
        refine ⟨_, _, ?_, HR.set hh hb q2 (splice_size cur _ _ hfit) ?_ o.ty id, h4⟩
        · obtain ⟨m, rfl⟩ : ∃ m, len = m + 1 := ⟨len - 1, by omega⟩
          simp [Builtin.clear_, run_underlying hu, zeroValue, typeInfo, ht2.info, ht2.zero, hst]
        · refine RowsAt.append ?_ (RowsAt.append ?_ ?_)
          · refine (q4.take off).congr fun k hk => ?_
            rw [splice_get cur _ _ hfit, if_neg]
            have : (o.rows.take off).length ≤ off := by simp; omega
            have := Nat.mul_le_mul_right sz this
            omega
          · have hl : (o.rows.take off).length = off := by simp; omega
            rw [hl, Nat.zero_add]
            rw [h2] at z4
            refine z4 _ _ fun j u hju => ?_
            have hj := (List.getElem?_eq_some_iff.1 hju).1
            have hz := z3 j u hju
            rw [Nat.zero_add] at hz
            rw [z1, List.length_replicate, h2] at hj
            rw [splice_get cur _ _ hfit, if_pos (by omega), Nat.add_sub_cancel_left]
            simpa using hz
          · have hl : (o.rows.take off).length = off := by simp; omega
            rw [hl, List.length_replicate, Nat.zero_add, ← Nat.add_mul]
            have := q4.drop (off + len)
            rw [Nat.zero_add] at this
            refine this.congr fun k hk => ?_
            rw [splice_get cur _ _ hfit, if_neg]
            rw [hzl, ← Nat.add_mul]; omega
  · rename_i e hke
    have hu := ht.und; rw [ht.sl hke] at hu
    simp only [VR] at hx
    subst hx
    exact ⟨w, h, by simp [Builtin.clear_, run_underlying hu], hh, hk⟩

theorem APure.run {f : Nat} {args : List AV} {x : AV} (hp : APure P f args x) {g : Gh} {h : Hp} {w : World} (hh : HR g h w) {vs : Array Value} (hv : VRs g args vs.toList) {R : Ending → World → Prop}
    (hR : ∀ g' v w', g.le g' → VR g' x v → HR g' h w' → R (.returned v) w') : Calls P f vs w R := by
  refine ((hp h).2 g w vs hv hh).mono ?_
  rintro e w' ⟨g', h', E, a, b, ⟨rfl, rfl⟩, d⟩
  cases e with
  | returned v => exact hR g' v w' a d b
  | panicked c => exact d.elim
  | outgrown => exact d.elim

set_option maxHeartbeats 1000000 in
theorem aRes_run (hT : TabOK P T) {pu : Bool} {o : Oper} {ρ : Operand → AV} {h : Hp} {k X : AV → Hp → Prop} (hr : aRes P T pu o.op ρ h k X) {g : Gh} {w : World} {a : Act} (hρ : ∀ x, VR g (ρ x) (a.eval x)) (hh : HR g h w)
    {K : Act → World → Prop} {Q : Exit → Act → World → Prop} (hk : ∀ g' x v h' w', g.le g' → VR g' x v → HR g' h' w' → k x h' → K (a.put o.dst v) w')
    (hX : ∀ g' x v h' w', g.le g' → VR g' x v → HR g' h' w' → X x h' → Q (.panic [{ v, recovered := false }]) a w') : o.wp P a w K Q := by
  have fin : ∀ {s : Sem Value} {r : Value} {w' : World}, execOp a.eval o = (do pure (Next.value (← s)) : Sem Next) → s.run P w = .ok r w' → K (a.put o.dst r) w' → o.wp P a w K Q := by
    intro s r w' h1 h2 h3
    unfold Oper.wp
    rw [h1, Sem.run_bind, h2]
    exact h3
  have calm : (match acalm T o.op ρ with | some x => k x h | none => False) → o.wp P a w K Q := by
    intro hc
    split at hc
    · rename_i x hx
      obtain ⟨r, h1, h2⟩ := acalm_run hT hh hρ hx
      unfold Oper.wp
      rw [h1]
      exact hk g x r h w (Gh.le.refl g) h2 hh hc
    · exact hc.elim
  have calls : ∀ {f : Operand} {args : Array Operand} {tys : Array TypeId} {n : Nat} {fs cs : Array Value}, o.op = .call ⟨.value f, args, tys⟩ → a.eval f = .func (.func n) fs cs → callable P n →
      Calls P n (fs ++ args.map a.eval ++ cs) w (fun
        | .returned v, w'' => K (a.put o.dst v) w''
        | .panicked chain, w'' => Q (.panic chain) a w''
        | .outgrown, _ => LetsOut Q) → o.wp P a w K Q := by
    rintro f args tys n fs cs ho hf ⟨fn, c1, c2, c3⟩ hc
    have hb : ¬ fn.body = none := by intro e; rw [e] at c3; cases c3
    have hn : fn.name ≠ "runtime.NumGoroutine" := by simpa using c2
    have : (execOp a.eval o).run P w = .ok (.enter n (fs ++ args.map a.eval ++ cs)) w := by
      simp [execOp, ho, resolve, hf, Deferred.ofValue, invoke, callFunc, c1, hn, hb]
    unfold Oper.wp
    rw [this]
    exact hc
  unfold aRes at hr
  split at hr
  · -- alloc
    rename_i t ho
    split at hr <;> try exact hr.elim
    rename_i ti hti
    obtain ⟨i, d, z, ht⟩ := hT.get hti
    obtain ⟨z1, z2⟩ := zero_cells (g := g) ht
    have hrow := one_row z1
    rw [← z2, ht.zsize] at hrow
    obtain ⟨a1, a2⟩ := hh.alloc (e := t) hrow (some (t, ti.size)) (by rw [ht.zsize]; exact TyOK.var t _)
    refine fin (s := Instr.alloc t true (.tuple #[])) (by simp only [execOp, ho]) (alloc_run ht _) ?_
    exact hk _ _ _ _ _ a1 (by simp [VR]) a2 (hr _ hh.fresh.1)
  · -- box
    rename_i t x ho
    split at hr <;> try exact hr.elim
    rename_i ti hti
    obtain ⟨i, d, z, ht⟩ := hT.get hti
    obtain ⟨h1, h2, h3⟩ := hr
    obtain ⟨x1, x2⟩ := (hρ x).okCells h1
    have hrow := one_row x1
    rw [h2] at hrow
    obtain ⟨a1, a2⟩ := hh.alloc (e := t) hrow (some (t, ti.size)) (by rw [x2, h2]; exact TyOK.var t _)
    refine fin (s := Instr.box t (a.eval x)) (by simp only [execOp, ho]) (r := .pointer (some ⟨w.heap.size, 0, none⟩)) (w' := w.alloc (.cells (a.eval x).cells t)) (by simp [Instr.box, newVar, newRow]) ?_
    exact hk _ _ _ _ _ a1 (by simp [VR]) a2 (h3 _ hh.fresh.1)
  · -- load
    rename_i t x ho
    have hx := hρ x
    split at hr
    · rename_i b sz i c hq
      split at hr <;> try exact hr.elim
      split at hr <;> try exact hr.elim
      rename_i ti o' hti hb
      split at hr <;> try exact hr.elim
      rename_i r hrow
      obtain ⟨hsz, hr⟩ := hr
      split at hr <;> try exact hr.elim
      rename_i y hy
      obtain ⟨i', d, z, ht⟩ := hT.get hti
      rw [hq] at hx
      simp only [VR] at hx
      obtain ⟨q1, cur, e, q2, q3, q4⟩ := hh.ob b o' hb
      obtain ⟨l1, l2⟩ := q4.get hrow
      obtain ⟨v, hv1, hv2⟩ := load_run (w := w) hT ht l2 hy (a := ⟨b, i * sz + c, none⟩) rfl (by simp [hsz]) q2
      refine fin (s := Instr.loadAt t (a.eval x)) (by simp only [execOp, ho]) (by simp [Instr.loadAt, hx, Instr.sureAddr, hv1]; exact ⟨rfl, rfl⟩) ?_
      exact hk _ _ _ _ _ (Gh.le.refl g) hv2 hh hr
    · split at hr <;> try exact hr.elim
      rename_i z hz
      obtain ⟨v, hv1, hv2⟩ := aloadI_run hT hh hx hz
      exact fin (s := Instr.loadAt t (a.eval x)) (by simp only [execOp, ho]) hv1 (hk _ _ _ _ _ (Gh.le.refl g) hv2 hh hr)
  · -- store
    rename_i t p x ho
    have hp := hρ p
    split at hr <;> try exact hr.elim
    rename_i ti b sz i c hti hq
    split at hr <;> try exact hr.elim
    rename_i o' hb
    split at hr <;> try exact hr.elim
    rename_i r hrow
    obtain ⟨h1, h2, h3, h4, h5⟩ := hr
    obtain ⟨i', d, z, ht⟩ := hT.get hti
    rw [hq] at hp
    simp only [VR] at hp
    obtain ⟨w', s1, s2⟩ := store_run hh ht hb hrow h1 (hρ x) h2 h3 h4
    unfold Oper.wp
    have : (execOp a.eval o).run P w = .ok .skip w' := by
      simp [execOp, ho, Instr.storeAt, hp, Instr.sureAddr, s1]
    rw [this]
    exact hk _ .any undef _ _ (Gh.le.refl g) (by simp [VR]) s2 h5
  · -- buildSlice
    rename_i t len parts ho
    split at hr <;> try exact hr.elim
    rename_i ti hti
    split at hr <;> try exact hr.elim
    rename_i e hke
    split at hr <;> try exact hr.elim
    rename_i ei hei
    obtain ⟨h1, h2, h3⟩ := hr
    split at h3 <;> try exact h3.elim
    rename_i rows hrows
    obtain ⟨i1, d1, z1, ht1⟩ := hT.get hti
    obtain ⟨i2, d2, z2, ht2⟩ := hT.get hei
    have hund := ht1.und; rw [ht1.sl hke] at hund
    have hz := repl_rows (g := g) ht2 len len (Nat.le_refl _)
    obtain ⟨c', f1, f2, f3⟩ := fill_rows (g := g) (vs := (parts.map fun (i, x) => (i, a.eval x)).toList) h1 hz (by simp) (by rw [Array.toList_map]; exact PRs.of hρ _) hrows
    obtain ⟨a1, a2⟩ := hh.alloc (e := e) f2 (some (e, 0)) (TyOK.row e _)
    have hrun : (Instr.buildSlice t len (parts.map fun (i, x) => (i, a.eval x))).run P w = .ok (.slice (some ⟨w.heap.size, 0, none⟩) len len) (w.alloc (.cells c' e)) := by
      by_cases h0 : len * ei.size = 0
      · have hl0 : len = 0 := by rcases Nat.mul_eq_zero.1 h0 with e | e <;> omega
        subst hl0
        have hp0 : parts = #[] := by
          apply Array.ext'
          cases e5 : parts.toList with
          | nil => rfl
          | cons p ps => rw [e5] at hrows; simp [arows] at hrows
        subst hp0
        have hc0 : c' = #[] := by
          apply Array.eq_empty_of_size_eq_zero
          rw [f3]; simp
        subst hc0
        have er : Array.range 0 = #[] := by apply Array.eq_empty_of_size_eq_zero; simp
        simp [Instr.buildSlice, run_underlying hund, sizeOf, typeInfo, ht2.info, newRow, Instr.fill, er]
      · have hb1 : ¬ len * i2.size > 2 ^ 24 := by rw [ht2.size]; show ¬ len * ei.size > 16777216; omega
        have hb2 : ¬ len * i2.size = 0 := by rw [ht2.size]; exact h0
        rw [← ht2.size] at f1
        exact run_buildSlice w t e len _ c' i2 z2 hund ht2.info ht2.zero hb1 hb2 f1
    refine fin (s := Instr.buildSlice t len (parts.map fun (i, x) => (i, a.eval x))) (by simp only [execOp, ho]) hrun ?_
    refine hk _ (.osl w.heap.size ei.size 0 len) _ _ _ a1 ?_ a2 (h3 _ hh.fresh.1)
    simp only [VR]
    refine ⟨_, len, rfl, Nat.le_refl _, rfl, .inr ⟨by simp, e, c'.size, by simp [Gh.new], ?_⟩⟩
    rw [Nat.zero_add, f3]; simp
  · -- makeSlice
    rename_i t l c ho
    split at hr <;> try exact hr.elim
    rename_i ti k1 m k2 n hti hl hc
    split at hr <;> try exact hr.elim
    rename_i e hke
    split at hr <;> try exact hr.elim
    rename_i ei hei
    obtain ⟨h1, h2, h3, h4, h5, h6⟩ := hr
    obtain ⟨i1, d1, z1, ht1⟩ := hT.get hti
    obtain ⟨i2, d2, z2, ht2⟩ := hT.get hei
    have hund := ht1.und; rw [ht1.sl hke] at hund
    have el := hρ l; rw [hl] at el; simp only [VR] at el
    have ec := hρ c; rw [hc] at ec; simp only [VR] at ec
    have hrun := run_make (P := P) w t e i2 z2 hund ht2.info ht2.zero k1 k2 m n h2 h3 (by rw [ht2.bytes]; exact h4) h5
    have hrow := repl_rows (g := g) ht2 n.toNat m.toNat (by omega)
    rw [ht2.size] at hrun
    have hsz : (madeCells z2.cells (n.toNat * ei.size)).size = n.toNat * ei.size := size_madeCells _ _
    have hrow' : RowsAt g (madeCells z2.cells (n.toNat * ei.size)) ei.size 0 (List.replicate m.toNat (ei.zero.map .val)) := hrow
    generalize madeCells z2.cells (n.toNat * ei.size) = c' at hrun hsz hrow'
    clear hrow
    obtain ⟨a1, a2⟩ := hh.alloc (e := e) hrow' (some (e, 0)) (TyOK.row e _)
    refine fin (s := Instr.makeSlice t (a.eval l) (a.eval c)) (by simp only [execOp, ho]) (by rw [el, ec]; exact hrun) ?_
    refine hk _ (.osl w.heap.size ei.size 0 m.toNat) _ _ _ a1 ?_ a2 (h6 _ hh.fresh.1)
    simp only [VR]
    refine ⟨⟨w.heap.size, 0, none⟩, n.toNat, rfl, by omega, rfl, .inr ⟨by simp, e, c'.size, by simp [Gh.new], ?_⟩⟩
    rw [Nat.zero_add, hsz]; exact Nat.le_refl _
  · -- append
    rename_i args tys ho
    split at hr <;> try exact hr.elim
    rename_i s x t tx hargs htys
    obtain ⟨r, w', g', y, h', q1, q2, q3, q4, q5⟩ := aAppend_run (ty := o.type) hT hh (hρ s) (hρ x) hr
    have ea : args.map a.eval = #[a.eval s, a.eval x] := by
      apply Array.ext'; rw [Array.toList_map, hargs]; rfl
    have et : tys = #[t, tx] := by apply Array.ext'; rw [htys]
    unfold Oper.wp
    have : (execOp a.eval o).run P w = .ok (.value r) w' := by
      simp [execOp, ho, resolve, invoke, builtin, ea, et, q1]
    rw [this]
    exact hk _ _ _ _ _ q2 q3 q4 q5
  · -- call
    rename_i f args tys ho
    have hf := hρ f
    split at hr <;> try exact hr.elim
    rename_i n first caps hq
    rw [hq] at hf
    simp only [VR] at hf
    obtain ⟨fs, cs, e1, e2, e3⟩ := hf
    have hvs : VRs g (first ++ args.toList.map ρ ++ caps) (fs ++ args.map a.eval ++ cs).toList := by
      rw [Array.toList_append, Array.toList_append, Array.toList_map]
      exact (e2.append (VRs.of hρ _)).append e3
    split at hr
    · obtain ⟨x, hp, hkx⟩ := hr
      refine calls ho e1 (hp h).1 (hp.run hh hvs fun g' v w' b1 b2 b3 => ?_)
      exact hk _ _ _ _ _ b1 b2 b3 hkx
    · refine calls ho e1 hr.1 ((hr.2 g w _ hvs hh).mono ?_)
      rintro e w' ⟨g', h', E, b1, b2, b3, b4⟩
      cases E with
      | ret x =>
        cases e with
        | returned v => exact hk _ _ _ _ _ b1 b4 b2 b3
        | panicked c => exact b4.elim
        | outgrown => exact b4.elim
      | pan x =>
        cases e with
        | returned v => exact b4.elim
        | panicked c => obtain ⟨v, rfl, hv⟩ := b4; exact hX _ _ _ _ _ b1 hv b2 b3
        | outgrown => exact b4.elim
  · -- panic
    rename_i x ho
    have hx := hρ x
    split at hr <;> try exact hr.elim
    rename_i t y hq
    rw [hq] at hx
    have hx' := hx
    simp only [VR] at hx
    obtain ⟨u, hu, _⟩ := hx
    unfold Oper.wp
    have : (execOp a.eval o).run P w = .halt (.panic (.iface t u)) w := by
      simp [execOp, ho, Instr.panic, hu]
    rw [this]
    rw [hu] at hx'
    exact hX _ _ _ _ _ (Gh.le.refl g) hx' hh hr
  · -- clear
    rename_i args tys ho
    split at hr <;> try exact hr.elim
    rename_i x t hargs htys
    obtain ⟨w', h', q1, q2, q3⟩ := aClear_run (ty := o.type) hT hh (hρ x) hr
    have ea : args.map a.eval = #[a.eval x] := by
      apply Array.ext'; rw [Array.toList_map, hargs]; rfl
    have et : tys = #[t] := by apply Array.ext'; rw [htys]
    unfold Oper.wp
    have : (execOp a.eval o).run P w = .ok (.value (.tuple #[])) w' := by
      simp [execOp, ho, resolve, invoke, builtin, ea, et, q1]
    rw [this]
    exact hk g (.tup []) _ _ _ (Gh.le.refl g) (by simp only [VR]; exact ⟨#[], rfl, by simp [VRs]⟩) q2 q3
  · -- binOp
    rename_i op t x y yt ho
    split at hr
    · rename_i z hz
      refine calm ?_
      rw [ho, hz]; exact hr
    · obtain ⟨b, q1, q2⟩ := nilCmp_run (P := P) (w := w) (ox := x) hT (hρ x) (a := a) hr
      refine fin (s := do eqGuard op t x y (a.eval x) (a.eval y); binOp op t (a.eval x) (a.eval y)) (by simp only [execOp, ho]) q1 ?_
      exact hk g (abool b) _ _ _ (Gh.le.refl g) (by simp [VR, abool]) hh q2
  · -- convert
    rename_i s d x ho
    split at hr
    · rename_i z hz
      refine calm ?_
      rw [ho, hz]; exact hr
    · split at hr <;> try exact hr.elim
      rename_i z hz
      obtain ⟨b, rfl, q2⟩ := aText_run hT hh (hρ x) hz
      refine fin (s := convert s d (a.eval x)) (by simp only [execOp, ho]) q2 ?_
      exact hk g (astr b) _ _ _ (Gh.le.refl g) (by simp [VR, astr]) hh hr
  · exact calm hr

end
end Go.Proofs.YtlnjajfagildnaaDoor.AM
