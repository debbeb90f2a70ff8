/- The abstract machine, part 2: the calm operations run in the model as the abstract ones say. -/
import Derived.Test.YtggcmnoacplbkaaDoorAm1
import Derived.WalkSpells
namespace Go.Proofs.YtggcmnoacplbkaaDoor.AM
open Go
set_option linter.unusedVariables false
set_option linter.unusedSimpArgs false

theorem add_none (a : Addr) (h : a.spot = none) (n : Nat) : a.add n = ⟨a.block, a.off + n, none⟩ := by
  unfold Addr.add
  split
  · rename_i e; subst e; cases a; simp at h; simp [h]
  · simp

section
variable {P : Program} {T : Tab} {g : Gh} {w : World}

theorem eqIn_bool (n : Nat) {t : Nat} (h : P.underlying t = some .bool) (a b : Bool) : (Op.equalIn (n + 1) t (.bool a) (.bool b)).run P w = .ok (a == b) w := by
  simp [Op.equalIn, run_underlying h]
theorem eqIn_sl_nil (n : Nat) {t e : Nat} (h : P.underlying t = some (.slice e)) (A : Option Addr) (k c : Nat) : (Op.equalIn (n + 1) t (.slice A k c) (.slice none 0 0)).run P w = .ok A.isNone w := by
  cases A <;> simp [Op.equalIn, run_underlying h]
theorem eqIn_ptr_nil (n : Nat) {t e : Nat} (h : P.underlying t = some (.pointer e)) (A : Option Addr) : (Op.equalIn (n + 1) t (.pointer A) (.pointer none)).run P w = .ok A.isNone w := by
  cases A <;> simp [Op.equalIn, run_underlying h]
theorem eqIn_fn_nil (n : Nat) {t : Nat} {a b : Array TypeId} {c : Bool} (h : P.underlying t = some (.func a b c)) (f : Fn) (x y : Array Value) : (Op.equalIn (n + 1) t (.func f x y) .nilFunc).run P w = .ok false w := by
  simp [Op.equalIn, run_underlying h]

theorem run_eql {t : Nat} {u v : Value} {b : Bool} (ox oy : Operand) (hk : ∀ (k k' : IntKind) m n, ¬ (u = .int k m ∧ v = .int k' n)) (hs : ∀ m n, ¬ (u = .string m ∧ v = .string n))
    (he : ∀ op : BinOp, (eqGuard op t ox oy u v).run P w = .ok () w) (hop : ∀ (op : BinOp), (binOp .eql t u v = do pure (.bool (← Op.equal t u v))) ∧ (binOp .neq t u v = do pure (.bool (!(← Op.equal t u v)))))
    (h : (Op.equalIn (9999 + 1) t u v).run P w = .ok b w) :
    (do eqGuard .eql t ox oy u v; binOp .eql t u v : Sem Value).run P w = .ok (.bool b) w ∧ (do eqGuard .neq t ox oy u v; binOp .neq t u v : Sem Value).run P w = .ok (.bool (!b)) w := by
  have h' : (Op.equal t u v).run P w = .ok b w := h
  constructor
  · rw [Sem.run_bind, he .eql, Result.andThen_ok, (hop .eql).1, Sem.run_bind, h']; rfl
  · rw [Sem.run_bind, he .neq, Result.andThen_ok, (hop .eql).2, Sem.run_bind, h']; rfl

theorem abin_int_run {op : BinOp} {t : Nat} {k k' : IntKind} {a b : Int} {z : AV} {tk : TK} {ox oy : Operand}
    (h : abin op tk (.val (.int k a)) (.val (.int k' b)) = some z) :
    ∃ r, (do eqGuard op t ox oy (.int k a) (.int k' b); binOp op t (.int k a) (.int k' b) : Sem Value).run P w = .ok r w ∧ VR g z r := by
  have hg : ∀ op : BinOp, (eqGuard op t ox oy (.int k a) (.int k' b)).run P w = .ok () w := by intro op; cases op <;> simp [eqGuard]
  rw [Sem.run_bind, hg, Result.andThen_ok]
  unfold abin at h
  cases op <;> simp only at h
  all_goals (split at h <;> try cases h)
  all_goals (try (rename_i hk; subst hk))
  all_goals first
    | exact ⟨_, by simp [binOp, Op.intArith, Op.intBits, Op.intCmp]; rfl, by simp [VR, abool]⟩
    | (rename_i hb; exact ⟨_, by simp [binOp, Op.shift, show ¬ b < 0 from by omega]; rfl, by simp [VR]⟩)
    | (split at h <;> cases h; rename_i hb; exact ⟨_, by simp [binOp, Op.intDiv, hb]; rfl, by simp [VR]⟩)

theorem abin_str_run {op : BinOp} {t : Nat} {a b : ByteArray} {z : AV} {tk : TK} {ox oy : Operand}
    (h : abin op tk (.val (.string a)) (.val (.string b)) = some z) :
    ∃ r, (do eqGuard op t ox oy (.string a) (.string b); binOp op t (.string a) (.string b) : Sem Value).run P w = .ok r w ∧ VR g z r := by
  have hg : ∀ op : BinOp, (eqGuard op t ox oy (.string a) (.string b)).run P w = .ok () w := by intro op; cases op <;> simp [eqGuard]
  rw [Sem.run_bind, hg, Result.andThen_ok]
  unfold abin at h
  cases op <;> simp only at h <;> try cases h
  case add =>
    split at h <;> cases h
    rename_i hb
    have : ¬ (((a.size + b.size : Nat) : Int) > IntKind.i64.max) := by
      show ¬ (((a.size + b.size : Nat) : Int) > 9223372036854775807); omega
    exact ⟨.string (a ++ b), by simp only [binOp, Op.stringOp]; rw [if_neg this]; simp, by simp [VR, astr]⟩
  all_goals (exact ⟨_, by simp [binOp, Op.stringOp]; rfl, by simp [VR, abool]⟩)

theorem abin_run {op : BinOp} {t : Nat} {ti : TI} {i : TypeInfo} {d : TypeDesc} {z0 : Value} (ht : TIs P t ti i d z0) {x y z : AV} {ox oy : Operand} {u v : Value}
    (hx : VR g x u) (hy : VR g y v) (h : abin op ti.kind x y = some z) :
    ∃ r, (do eqGuard op t ox oy u v; binOp op t u v : Sem Value).run P w = .ok r w ∧ VR g z r := by
  have fin : ∀ {u v : Value} {b : Bool} (op : BinOp), (op = .eql ∧ z = abool b) ∨ (op = .neq ∧ z = abool (!b)) →
      ((do eqGuard .eql t ox oy u v; binOp .eql t u v : Sem Value).run P w = .ok (.bool b) w ∧ (do eqGuard .neq t ox oy u v; binOp .neq t u v : Sem Value).run P w = .ok (.bool (!b)) w) →
      ∃ r, (do eqGuard op t ox oy u v; binOp op t u v : Sem Value).run P w = .ok r w ∧ VR g z r := by
    rintro u v b op (⟨rfl, rfl⟩ | ⟨rfl, rfl⟩) hh
    · exact ⟨_, hh.1, by simp [VR, abool]⟩
    · exact ⟨_, hh.2, by simp [VR, abool]⟩
  have h0 := h
  unfold abin at h
  split at h
  · simp only [VR] at hx hy; subst hx; subst hy
    exact abin_int_run h0
  · simp only [VR] at hx hy; subst hx; subst hy
    exact abin_str_run h0
  · simp only [VR] at hx hy; subst hx; subst hy
    rename_i a b
    split at h <;> cases h
    all_goals
      rename_i hk
      have hu := ht.und; rw [ht.boolean hk] at hu
      refine fin (b := a == b) _ (by simp) (run_eql ox oy (by simp) (by simp) (by intro op; cases op <;> simp [eqGuard]) (by simp [binOp]) (eqIn_bool _ hu a b))
  · simp only [VR] at hx hy; subst hx; subst hy
    split at h <;> cases h
    all_goals
      rename_i hk
      have hu := ht.und; rw [ht.sl hk] at hu
      exact fin (b := true) _ (by simp) (run_eql ox oy (by simp) (by simp) (by intro op; cases op <;> simp [eqGuard]) (by simp [binOp]) (eqIn_sl_nil _ hu none 0 0))
  · simp only [VR] at hx hy; subst hy
    obtain ⟨aa, cap, rfl, _⟩ := hx
    split at h <;> cases h
    all_goals
      rename_i hk
      have hu := ht.und; rw [ht.sl hk] at hu
      exact fin (b := false) _ (by simp) (run_eql ox oy (by simp) (by simp) (by intro op; cases op <;> simp [eqGuard]) (by simp [binOp]) (eqIn_sl_nil _ hu (some aa) _ _))
  · simp only [VR] at hx hy; subst hy
    obtain ⟨A, cap, rfl, _, hx⟩ := hx
    have : ∃ aa, A = some aa := by
      rcases hx with hx | ⟨aa, _, _, _, rfl, _⟩
      · simp at hx
      · exact ⟨aa, rfl⟩
    obtain ⟨aa, rfl⟩ := this
    split at h <;> cases h
    all_goals
      rename_i hk
      have hu := ht.und; rw [ht.sl hk] at hu
      exact fin (b := false) _ (by simp) (run_eql ox oy (by simp) (by simp) (by intro op; cases op <;> simp [eqGuard]) (by simp [binOp]) (eqIn_sl_nil _ hu (some aa) _ _))
  · simp only [VR] at hx hy; subst hx; subst hy
    split at h <;> cases h
    all_goals
      rename_i hk
      have hu := ht.und; rw [ht.ptr hk] at hu
      exact fin (b := false) _ (by simp) (run_eql ox oy (by simp) (by simp) (by intro op; cases op <;> simp [eqGuard]) (by simp [binOp]) (eqIn_ptr_nil _ hu (some _)))
  · simp only [VR] at hx hy; subst hy
    obtain ⟨aa, c, e, fr, rfl, _⟩ := hx
    split at h <;> cases h
    all_goals
      rename_i hk
      have hu := ht.und; rw [ht.ptr hk] at hu
      exact fin (b := false) _ (by simp) (run_eql ox oy (by simp) (by simp) (by intro op; cases op <;> simp [eqGuard]) (by simp [binOp]) (eqIn_ptr_nil _ hu (some _)))
  · simp only [VR] at hx hy; subst hx; subst hy
    split at h <;> cases h
    all_goals
      rename_i hk
      have hu := ht.und; rw [ht.ptr hk] at hu
      exact fin (b := true) _ (by simp) (run_eql ox oy (by simp) (by simp) (by intro op; cases op <;> simp [eqGuard]) (by simp [binOp]) (eqIn_ptr_nil _ hu none))
  · simp only [VR] at hx hy; subst hy
    obtain ⟨fs, cs, rfl, _⟩ := hx
    split at h <;> cases h
    all_goals
      rename_i hk
      have hd : ∃ a b c, d = .func a b c := by
        have := ht.kind
        rw [hk] at this
        cases d <;> simp [kindOf] at this
        exact ⟨_, _, _, rfl⟩
      obtain ⟨_, _, _, rfl⟩ := hd
      exact fin (b := false) _ (by simp) (run_eql ox oy (by simp) (by simp) (by intro op; cases op <;> simp [eqGuard]) (by simp [binOp]) (eqIn_fn_nil _ ht.und _ _ _))
  · cases h

theorem part_plain {t : Nat} {d : TypeDesc} (h : P.underlying t = some d) (hd : (kindOf d).agg = false) {cs : Array Value} {off : Nat} {v : Value} (hv : cs[off]? = some v) : (part t cs off).run P w = .ok v w := by
  have : (isAgg t).run P w = .ok false w := by
    unfold isAgg
    rw [Sem.run_bind, run_underlying h]
    cases d <;> simp [kindOf, TK.agg] at hd <;> simp
  simp [part, this, hv]

theorem aeqs_run {xs ys : List AV} {us vs : Array Value} (hx : CellsAt g us 0 xs) (hy : CellsAt g vs 0 ys) (n : Nat) :
    ∀ (fs : List Field) (es : List (Nat × TK)) (r : Bool), fs.mapM (eqField P) = some es → aeqs es xs ys = some r → (Op.eqFields (n + 1) us vs fs).run P w = .ok r w
  | [], es, r, h, e => by simp at h; subst h; simp only [aeqs] at e; cases e; rfl
  | f :: fs, es, r, h, e => by
    simp only [List.mapM_cons, Option.bind_eq_bind, Option.pure_def] at h
    cases hf : eqField P f with
    | none => simp [hf] at h
    | some p =>
      cases hr : fs.mapM (eqField P) with
      | none => simp [hf, hr] at h
      | some rest =>
        simp [hf, hr] at h
        subst h
        obtain ⟨off, k⟩ := p
        simp only [aeqs] at e
        have get : ∀ (l : List AV) (c : Array Value) (x : AV), CellsAt g c 0 l → l[off]? = some x → ∃ v, c[off]? = some v ∧ VR g x v := by
          intro l c x hc hl
          obtain ⟨v, h1, _, h3⟩ := hc.get hl
          rw [Nat.zero_add] at h1
          exact ⟨v, h1, h3⟩
        unfold eqField at hf
        split at hf
        · cases hf
        rename_i hname
        have fin : ∀ (u v : Value) (c q : Bool) (d : TypeDesc), f.offset = off → P.underlying f.type = some d → (kindOf d).agg = false → us[off]? = some u → vs[off]? = some v → (Op.equalIn (n + 1) f.type u v).run P w = .ok c w →
            (Op.eqFields (n + 1) us vs fs).run P w = .ok q w → (Op.eqFields (n + 1) us vs (f :: fs)).run P w = .ok (c && q) w := by
          rintro u v c q d rfl hund hd hu hv he hq
          simp only [Op.eqFields, ne_eq, hname, not_false_eq_true, if_true, Sem.run_bind, part_plain (w := w) hund hd hu, part_plain (w := w) hund hd hv, Result.andThen_ok, he, Sem.run_ite, Sem.run_pure, hq]
          cases c <;> simp
        split at e <;> try cases e
        · rename_i k1 k2 a k3 b q hxa hyb hq
          split at e <;> cases e
          rename_i hkk; subst hkk
          obtain ⟨u, u1, u2⟩ := get xs us _ hx hxa
          obtain ⟨v, v1, v2⟩ := get ys vs _ hy hyb
          simp only [VR] at u2 v2
          subst u2; subst v2
          split at hf <;> cases hf
          rename_i hund
          have ih := aeqs_run hx hy n fs rest q hr hq
          have he : (Op.equalIn (n + 1) f.type (.int k2 a) (.int k2 b)).run P w = .ok (decide (a = b)) w := by
            rw [run_equalIn_int w n f.type _ _ a b hund]; rfl
          exact fin _ _ _ _ _ rfl hund rfl u1 v1 he ih
        · rename_i a b q hxa hyb hq
          obtain ⟨u, u1, u2⟩ := get xs us _ hx hxa
          obtain ⟨v, v1, v2⟩ := get ys vs _ hy hyb
          simp only [VR] at u2 v2
          subst u2; subst v2
          split at hf <;> cases hf
          rename_i hund
          have ih := aeqs_run hx hy n fs rest q hr hq
          have he : (Op.equalIn (n + 1) f.type (.string a) (.string b)).run P w = .ok (decide (a.toList = b.toList)) w := by
            rw [run_equalIn_string w n f.type a b hund]
            congr 1
            by_cases h : a.toList = b.toList <;> simp [h]
          exact fin _ _ _ _ _ rfl hund rfl u1 v1 he ih
        · rename_i a b q hxa hyb hq
          obtain ⟨u, u1, u2⟩ := get xs us _ hx hxa
          obtain ⟨v, v1, v2⟩ := get ys vs _ hy hyb
          simp only [VR] at u2 v2
          subst u2; subst v2
          split at hf <;> cases hf
          rename_i hund
          have ih := aeqs_run hx hy n fs rest q hr hq
          have he : (Op.equalIn (n + 1) f.type (.bool a) (.bool b)).run P w = .ok (decide (a = b)) w := by
            rw [run_equalIn_bool' w n f.type a b hund]
            cases a <;> cases b <;> rfl
          exact fin _ _ _ _ _ rfl hund rfl u1 v1 he ih

theorem abin2_run {op : BinOp} {t : Nat} {ti : TI} {i : TypeInfo} {d : TypeDesc} {z0 : Value} (ht : TIs P t ti i d z0) {x y z : AV} {ox oy : Operand} {u v : Value}
    (hx : VR g x u) (hy : VR g y v) (h : abin2 op ti x y = some z) :
    ∃ r, (do eqGuard op t ox oy u v; binOp op t u v : Sem Value).run P w = .ok r w ∧ VR g z r := by
  unfold abin2 at h
  split at h
  · rename_i xs ys
    simp only [VR] at hx hy
    obtain ⟨us, rfl, hx, _⟩ := hx
    obtain ⟨vs, rfl, hy, _⟩ := hy
    have key : ∀ es, ti.eqs = some es → ∀ r, aeqs es xs ys = some r → ∀ op : BinOp, (eqGuard op t ox oy (.agg us) (.agg vs)).run P w = .ok () w ∧ (Op.equalIn 10000 t (.agg us) (.agg vs)).run P w = .ok r w := by
      intro es hes r hr op
      have he := ht.eqs
      rw [hes] at he
      unfold eqsOf at he
      split at he <;> try cases he
      rename_i fs
      split at he <;> try cases he
      rename_i es' hfs
      split at he <;> cases he
      rename_i hn
      simp only [Bool.or_eq_true, not_or, Bool.not_eq_true] at hn
      have hf : P.fieldsOf t = fs := by simp [Program.fieldsOf, ht.und]
      refine ⟨run_eqGuard_agg w op t ox oy us vs hn.2, ?_⟩
      rw [run_equalIn_struct w 9999 t us vs (by rw [hf]; exact ht.und) hn.1, hf]
      exact aeqs_run hx hy 9998 _ _ r hfs hr
    split at h
    · rename_i es hes
      cases hr : aeqs es xs ys with
      | none => rw [hr] at h; cases h
      | some r =>
        rw [hr] at h; cases h
        obtain ⟨k1, k2⟩ := key es hes r hr .eql
        refine ⟨.bool r, ?_, by simp [VR, abool]⟩
        rw [Sem.run_bind, k1, Result.andThen_ok, run_eql_struct, k2]; rfl
    · rename_i es hes
      cases hr : aeqs es xs ys with
      | none => rw [hr] at h; cases h
      | some r =>
        rw [hr] at h; cases h
        obtain ⟨k1, k2⟩ := key es hes r hr .neq
        refine ⟨.bool (!r), ?_, by simp [VR, abool]⟩
        rw [Sem.run_bind, k1, Result.andThen_ok, run_neq_struct, k2]; rfl
    · cases h
  · exact abin_run ht hx hy h

theorem aun_run {op : UnOp} {x z : AV} {u : Value} (hx : VR g x u) (h : aun op x = some z) : ∃ r, (Op.unary op u).run P w = .ok r w ∧ VR g z r := by
  unfold aun at h
  split at h <;> cases h
  · simp only [VR] at hx; subst hx
    exact ⟨_, by simp [Op.unary, Op.intArith]; rfl, by simp [VR]⟩
  · simp only [VR] at hx; subst hx
    exact ⟨_, by simp [Op.unary]; rfl, by simp [VR, abool]⟩

theorem apart_one {ti : TI} {cs : List AV} {off : Nat} {z : AV} {c : Array Value} {o : Nat} (hc : CellsAt g c o cs) (ha : ti.kind.agg = false) (h : apart ti cs off = some z) :
    ∃ v, c[o + off]? = some v ∧ VR g z v := by
  unfold apart at h
  rw [if_neg (by simp [ha])] at h
  obtain ⟨v, hv, _, hr⟩ := hc.get h
  exact ⟨v, hv, hr⟩

theorem apart_agg {ti : TI} {cs : List AV} {off : Nat} {z : AV} {c : Array Value} {o : Nat} (hc : CellsAt g c o cs) (ha : ti.kind.agg = true) (h : apart ti cs off = some z) :
    VR g z (.agg (c.extract (o + off) (o + off + ti.size))) ∧ ∀ j, j < ti.size → ∃ v, c[o + off + j]? = some v := by
  unfold apart at h
  rw [if_pos ha] at h
  split at h <;> cases h
  rename_i hle
  have hd := (hc.drop off).take ti.size
  have hlen : ((cs.drop off).take ti.size).length = ti.size := by simp; omega
  constructor
  · simp only [VR]
    refine ⟨_, rfl, ?_, ?_⟩
    · refine hd.congr fun k hk => ?_
      rw [hlen] at hk
      simp [Array.getElem?_extract]
      intro hle2
      omega
    · rw [hlen, Array.size_extract]
      rcases hd.bound with h0 | hb
      · have : ti.size = 0 := by rw [← hlen, h0]; rfl
        omega
      · rw [hlen] at hb; omega
  · intro j hj
    have hget : ((cs.drop off).take ti.size)[j]? = some ((cs.drop off).take ti.size)[j] := List.getElem?_eq_getElem (by omega)
    obtain ⟨v, hv, _⟩ := hd.get hget
    exact ⟨v, hv⟩

theorem cell_of {b off : Nat} {c : Array Value} {e : TypeId} {fr : Nat × Nat} (hb : w.heap[b]? = some (.cells c e fr)) : w.cell? ⟨b, off, none⟩ = c[off]? := by
  simp [World.cell?, hb]

/-- a load out of a row of cells -/
theorem load_run (hT : TabOK P T) {t : Nat} {ti : TI} {i : TypeInfo} {d : TypeDesc} {z0 : Value} (ht : TIs P t ti i d z0) {cs : List AV} {off : Nat} {z : AV} {c : Array Value} {o : Nat}
    (hc : CellsAt g c o cs) (h : apart ti cs off = some z) {a : Addr} (hs : a.spot = none) (ho : a.off = o + off) {e : TypeId} {fr : Nat × Nat} (hb : w.heap[a.block]? = some (.cells c e fr)) :
    ∃ r, (loadVar t a).run P w = .ok r w ∧ VR g z r := by
  by_cases ha : ti.kind.agg = true
  · obtain ⟨h1, h2⟩ := apart_agg hc ha h
    refine ⟨_, ?_, h1⟩
    have hl : ((c.extract (o + off) (o + off + ti.size)).toList).length = ti.size := by
      have hx : ∀ j, j < ti.size → o + off + j < c.size := fun j hj => by
        obtain ⟨v, hv⟩ := h2 j hj
        exact (Array.getElem?_eq_some_iff.1 hv).1
      rw [Array.length_toList, Array.size_extract]
      by_cases h0 : ti.size = 0
      · omega
      · have := hx (ti.size - 1) (by omega); omega
    have key := run_loadCells_list (P := P) w a (c.extract (o + off) (o + off + ti.size)).toList (fun j v hv => by
      rw [add_none a hs, cell_of hb, ho]
      have hj : j < ti.size := by
        have := (List.getElem?_eq_some_iff.1 hv).1; omega
      have hv' : (c.extract (o + off) (o + off + ti.size))[j]? = some v := by rw [← Array.getElem?_toList]; exact hv
      rw [Array.getElem?_extract] at hv'
      split at hv'
      · exact hv'
      · cases hv')
    rw [hl, Array.toArray_toList] at key
    simp [loadVar, ht.run_agg, ha, ht.run_size, key]
  · have ha' : ti.kind.agg = false := by simpa using ha
    obtain ⟨v, hv, hr⟩ := apart_one hc ha' h
    refine ⟨v, ?_, hr⟩
    have hcell : w.cell? a = some v := by
      have : a = ⟨a.block, a.off, none⟩ := by cases a; simp at hs; simp [hs]
      rw [this, cell_of hb, ho, hv]
    simp [loadVar, ht.run_agg, ha, hcell]

theorem afield_ok (hT : TabOK P T) {t f off : Nat} {fi : TI} (h : afield T t f = some (off, fi)) :
    ∃ fields fd i d z, P.underlying t = some (.struct fields) ∧ fields[f]? = some fd ∧ fd.offset = off ∧ TIs P fd.type fi i d z ∧ fi.size ≠ 0 := by
  unfold afield at h
  split at h <;> try cases h
  rename_i ti hti
  split at h <;> try cases h
  rename_i fs hk
  split at h <;> try cases h
  rename_i off' ft hf
  split at h <;> try cases h
  rename_i fi' hfi
  split at h <;> cases h
  rename_i hne
  obtain ⟨i, d, z, ht⟩ := hT.get hti
  obtain ⟨fields, rfl, hfs⟩ := ht.struct hk
  obtain ⟨i2, d2, z2, ht2⟩ := hT.get hfi
  rw [← hfs, List.getElem?_map] at hf
  cases e : fields.toList[f]? with
  | none => rw [e] at hf; cases hf
  | some fd =>
    rw [e] at hf; cases hf
    exact ⟨fields, fd, i2, d2, z2, ht.und, by simpa using e, rfl, ht2, hne⟩

theorem fieldPlace_run {a : Addr} {fd : Field} {ti : TI} {i : TypeInfo} {d : TypeDesc} {z0 : Value} (ht : TIs P fd.type ti i d z0) (hn : ti.size ≠ 0) (hs : a.spot = none) :
    (fieldPlace a fd).run P w = .ok ⟨a.block, a.off + fd.offset, none⟩ w := by
  simp [fieldPlace, ht.run_size, hn, add_none a hs]

theorem afieldAddr_run (hT : TabOK P T) {t f : Nat} {x z : AV} {u : Value} (hx : VR g x u) (h : afieldAddr T t x f = some z) :
    ∃ r, (Instr.fieldAt t u f).run P w = .ok r w ∧ VR g z r := by
  unfold afieldAddr at h
  split at h <;> try cases h
  rename_i off fi hf
  obtain ⟨fields, fd, i, d, z0, hu, hfd, rfl, ht, hne⟩ := afield_ok hT hf
  split at h <;> cases h
  · simp only [VR] at hx
    obtain ⟨a, c, e, fr, rfl, hs, hc, hfz, hr⟩ := hx
    refine ⟨.pointer (some ⟨a.block, a.off + fd.offset, none⟩), ?_, ?_⟩
    · simp [Instr.fieldAt, run_underlying hu, hfd, Instr.sureAddr, fieldPlace_run ht hne hs]
    · simp only [VR]
      exact ⟨_, c, e, fr, rfl, rfl, by simp; omega, hfz, by simpa [Nat.add_sub_add_right] using hr⟩
  · simp only [VR] at hx
    subst hx
    rename_i b sz i c
    refine ⟨.pointer (some ⟨b, i * sz + c + fd.offset, none⟩), ?_, ?_⟩
    · simp [Instr.fieldAt, run_underlying hu, hfd, Instr.sureAddr, fieldPlace_run ht hne]
    · simp [VR, Nat.add_assoc]

theorem part_run {t : Nat} {ti : TI} {i : TypeInfo} {d : TypeDesc} {z0 : Value} (ht : TIs P t ti i d z0) {cs : List AV} {off : Nat} {z : AV} {c : Array Value}
    (hc : CellsAt g c 0 cs) (h : apart ti cs off = some z) : ∃ r, (part t c off).run P w = .ok r w ∧ VR g z r := by
  by_cases ha : ti.kind.agg = true
  · obtain ⟨h1, _⟩ := apart_agg hc ha h
    simp only [Nat.zero_add] at h1
    exact ⟨.agg (c.extract off (off + ti.size)), by simp [part, ht.run_agg, ha, ht.run_size], h1⟩
  · obtain ⟨v, hv, hr⟩ := apart_one hc (by simpa using ha) h
    simp only [Nat.zero_add] at hv
    exact ⟨v, by simp [part, ht.run_agg, ha, hv], hr⟩

theorem afieldOf_run (hT : TabOK P T) {t f : Nat} {x z : AV} {u : Value} (hx : VR g x u) (h : afieldOf T t x f = some z) :
    ∃ r, (Instr.field t u f).run P w = .ok r w ∧ VR g z r := by
  unfold afieldOf at h
  split at h <;> try cases h
  rename_i off fi hf
  obtain ⟨fields, fd, i, d, z0, hu, hfd, rfl, ht, hne⟩ := afield_ok hT hf
  split at h <;> try cases h
  simp only [VR] at hx
  obtain ⟨vs, rfl, hc, hl⟩ := hx
  obtain ⟨r, hr, hv⟩ := part_run (w := w) ht hc h
  exact ⟨r, by simp [Instr.field, run_underlying hu, hfd, asAgg, hr], hv⟩

theorem atInt_ok {x : AV} {u : Value} {n : Int} (hx : VR g x u) (h : atInt x = some n) : ∃ k, u = .int k n := by
  unfold atInt at h
  split at h <;> cases h
  simp only [VR] at hx
  exact ⟨_, hx⟩

theorem aindexAddr_run (hT : TabOK P T) {t : Nat} {x i z : AV} {u v : Value} (hx : VR g x u) (hi : VR g i v) (h : aindexAddr T t x i = some z) :
    ∃ r, (Instr.indexAt t u v).run P w = .ok r w ∧ VR g z r := by
  unfold aindexAddr at h
  split at h <;> try cases h
  rename_i ti n hti hn
  obtain ⟨k, rfl⟩ := atInt_ok hi hn
  obtain ⟨ii, d, z0, ht⟩ := hT.get hti
  split at h <;> try cases h
  rename_i h0
  split at h <;> try cases h
  · rename_i e sz rows hk
    split at h <;> try cases h
    rename_i ei hei
    split at h <;> try cases h
    rename_i hsz
    split at h <;> cases h
    rename_i r hr
    obtain ⟨i2, d2, z2, ht2⟩ := hT.get hei
    simp only [VR] at hx
    obtain ⟨A, cap, rfl, hcap, hx⟩ := hx
    have hlt := (List.getElem?_eq_some_iff.1 hr).1
    rcases hx with rfl | ⟨a, c, e', fr, rfl, hs, hfz, hrows⟩
    · simp at hlt
    · have hd := ht.sl hk
      have hlt' : n < (rows.length : Int) := by omega
      refine ⟨.pointer (some ⟨a.block, a.off + n.toNat * sz, none⟩), ?_, ?_⟩
      · simp [Instr.indexAt, asIntOf, ht.run_und, hd, h0, hlt', ht2.run_size, hsz, add_none a hs]
      · simp only [VR]
        refine ⟨_, c, e', fr, rfl, rfl, by simp, hfz, ?_⟩
        simpa using (hrows.get hr).2
  · rename_i e b sz off len hk
    split at h <;> try cases h
    rename_i ei hei
    split at h <;> cases h
    rename_i hc
    obtain ⟨i2, d2, z2, ht2⟩ := hT.get hei
    simp only [VR] at hx
    obtain ⟨a, cap, rfl, hcap, hs, hx⟩ := hx
    have hd := ht.sl hk
    have hlt' : n < (len : Int) := by omega
    rcases hx with h0' | ⟨rfl, e', m, hm, hle⟩
    · omega
    · refine ⟨.pointer (some ⟨b, off * sz + n.toNat * sz, none⟩), ?_, ?_⟩
      · simp [Instr.indexAt, asIntOf, ht.run_und, hd, h0, hlt', ht2.run_size, hc.1, add_none]
      · simp [VR, Nat.add_mul]
  · rename_i m e b sz r c hk
    split at h <;> try cases h
    rename_i ei hei
    split at h <;> cases h
    rename_i hc
    obtain ⟨i2, d2, z2, ht2⟩ := hT.get hei
    simp only [VR] at hx
    subst hx
    have hd := ht.arr hk
    have hlt' : n < (m : Int) := by omega
    refine ⟨.pointer (some ⟨b, r * sz + c + n.toNat * ei.size, none⟩), ?_, ?_⟩
    · simp [Instr.indexAt, asIntOf, ht.run_und, hd, h0, hlt', ht2.run_size, add_none, Instr.sureAddr]
    · simp [VR, Nat.add_assoc]
  · rename_i m e r c hk
    split at h <;> try cases h
    rename_i ei hei
    split at h <;> cases h
    rename_i hc
    obtain ⟨i2, d2, z2, ht2⟩ := hT.get hei
    simp only [VR] at hx
    obtain ⟨a, cc, e', fr, rfl, hs, hle, hfz, hr⟩ := hx
    have hd := ht.arr hk
    have hlt' : n < (m : Int) := by omega
    refine ⟨.pointer (some ⟨a.block, a.off + n.toNat * ei.size, none⟩), ?_, ?_⟩
    · simp [Instr.indexAt, asIntOf, ht.run_und, hd, h0, hlt', ht2.run_size, add_none a hs, Instr.sureAddr]
    · simp only [VR]
      exact ⟨_, cc, e', fr, rfl, rfl, by simp; omega, hfz, by simpa [Nat.add_sub_add_right] using hr⟩

theorem aindex_run (hT : TabOK P T) {t : Nat} {x i z : AV} {u v : Value} (hx : VR g x u) (hi : VR g i v) (h : aindex T t x i = some z) :
    ∃ r, (Instr.index t u v).run P w = .ok r w ∧ VR g z r := by
  unfold aindex at h
  split at h <;> try cases h
  rename_i ti n hti hn
  obtain ⟨k, rfl⟩ := atInt_ok hi hn
  obtain ⟨ii, d, z0, ht⟩ := hT.get hti
  split at h <;> try cases h
  rename_i h0
  split at h <;> try cases h
  · rename_i m e cs hk
    split at h <;> try cases h
    rename_i ei hei
    split at h <;> try cases h
    rename_i hc
    obtain ⟨i2, d2, z2, ht2⟩ := hT.get hei
    simp only [VR] at hx
    obtain ⟨vs, rfl, hcs, hl⟩ := hx
    have hd := ht.arr hk
    have hlt' : n < (m : Int) := by omega
    obtain ⟨r, hr, hv⟩ := part_run (w := w) ht2 hcs h
    exact ⟨r, by simp [Instr.index, asIntOf, ht.run_und, hd, h0, hlt', ht2.run_size, hr], hv⟩
  · rename_i s hk
    split at h <;> cases h
    rename_i c hc
    simp only [VR] at hx
    subst hx
    have hd := ht.str hk
    exact ⟨.int .u8 c.toNat, by simp [Instr.index, asIntOf, ht.run_und, hd, h0, hc], by simp [VR, abyte]⟩

theorem abound_ok {y d n : Nat} {x : Option AV} {u : Option Value} (hx : ∀ a, x = some a → ∃ v, u = some v ∧ VR g a v) (hn : x = none → u = none) (h : abound d x = some n) :
    (u = none ∧ n = d) ∨ ∃ k, u = some (.int k n) := by
  unfold abound at h
  split at h
  · cases h; exact .inl ⟨hn rfl, rfl⟩
  · rename_i k m
    split at h <;> cases h
    obtain ⟨v, rfl, hv⟩ := hx _ rfl
    simp only [VR] at hv
    subst hv
    exact .inr ⟨k, by congr 2; omega⟩
  · cases h

theorem bounds_run {isSl : Bool} {len cap l h : Nat} {lo hi : Option Value} (hl : (lo = none ∧ l = 0) ∨ ∃ k, lo = some (.int k l)) (hh : (hi = none ∧ h = len) ∨ ∃ k, hi = some (.int k h))
    (h1 : l ≤ h) (h2 : h ≤ len) (h3 : len ≤ cap) : (Instr.sliceBounds isSl len cap lo hi none).run P w = .ok (l, h, cap) w := by
  have e1 : (0 : Int) ≤ (l : Int) := by omega
  have e2 : (l : Int) ≤ (h : Int) := by omega
  have e3 : (0 : Int) ≤ (h : Int) := by omega
  have e4 : (h : Int) ≤ (cap : Int) := by omega
  rcases hh with ⟨rfl, rfl⟩ | ⟨k2, rfl⟩ <;> rcases hl with ⟨rfl, rfl⟩ | ⟨k, rfl⟩ <;>
    simp [Instr.sliceBounds, Instr.sliceBound, asIntOf, h1, show h ≤ cap from by omega]

theorem aslice_run (hT : TabOK P T) {t : Nat} {x z : AV} {lo hi : Option AV} {u : Value} {lo' hi' : Option Value} (hx : VR g x u)
    (h1 : ∀ a, lo = some a → ∃ v, lo' = some v ∧ VR g a v) (h2 : lo = none → lo' = none) (h3 : ∀ a, hi = some a → ∃ v, hi' = some v ∧ VR g a v) (h4 : hi = none → hi' = none)
    (h : aslice T t x lo hi = some z) : ∃ r, (Instr.sliceAt t u lo' hi' none).run P w = .ok r w ∧ VR g z r := by
  unfold aslice at h
  split at h <;> try cases h
  rename_i ti hti
  obtain ⟨ii, d, z0, ht⟩ := hT.get hti
  split at h <;> try cases h
  · rename_i e sz rows hk
    split at h <;> try cases h
    rename_i ei l hh hei hl hh'
    split at h <;> cases h
    rename_i hc
    obtain ⟨hc1, hc2, hc3⟩ := hc
    obtain ⟨i2, d2, z2, ht2⟩ := hT.get hei
    have hd := ht.sl hk
    have hu := ht.und; rw [hd] at hu
    have b1 := abound_ok (y := 0) h1 h2 hl
    have b2 := abound_ok (y := 0) h3 h4 hh'
    simp only [VR] at hx
    obtain ⟨A, cap, rfl, hcap, hx⟩ := hx
    refine ⟨.slice (if cap = l then A else A.map (·.add (l * sz))) (hh - l) (cap - l), ?_, ?_⟩
    · simp [Instr.sliceAt, run_underlying hu, Instr.slice, bounds_run b1 b2 hc2 hc3 hcap, ht2.run_size, hc1]
    · simp only [VR]
      have hlen : ((rows.take hh).drop l).length = hh - l := by rw [List.length_drop, List.length_take]; omega
      rw [hlen]
      refine ⟨_, cap - l, rfl, by omega, ?_⟩
      by_cases h0 : l = hh
      · left; simp [h0, List.drop_eq_nil_iff]
      · right
        rcases hx with rfl | ⟨a, c, e', fr, rfl, hs, hfz, hrows⟩
        · simp at hc3; omega
        · refine ⟨⟨a.block, a.off + l * sz, none⟩, c, e', fr, ?_, rfl, hfz, ?_⟩
          · rw [if_neg (by omega)]; simp [add_none a hs]
          · exact (hrows.take hh).drop l
  · rename_i e b sz off len hk
    split at h <;> try cases h
    rename_i ei l hh hei hl hh'
    split at h <;> cases h
    rename_i hc
    obtain ⟨hc1, hc2, hc3⟩ := hc
    obtain ⟨i2, d2, z2, ht2⟩ := hT.get hei
    have hd := ht.sl hk
    have hu := ht.und; rw [hd] at hu
    have b1 := abound_ok (y := 0) h1 h2 hl
    have b2 := abound_ok (y := 0) h3 h4 hh'
    simp only [VR] at hx
    obtain ⟨a, cap, rfl, hcap, hs, hx⟩ := hx
    refine ⟨.slice (some (if cap = l then a else a.add (l * sz))) (hh - l) (cap - l), ?_, ?_⟩
    · have : (if cap = l then some a else (some a).map (·.add (l * sz))) = some (if cap = l then a else a.add (l * sz)) := by split <;> rfl
      simp [Instr.sliceAt, run_underlying hu, Instr.slice, bounds_run b1 b2 hc2 hc3 hcap, ht2.run_size, hc1]
      split <;> rfl
    · simp only [VR]
      refine ⟨_, cap - l, rfl, by omega, ?_, ?_⟩
      · split
        · exact hs
        · rw [add_none a hs]
      · by_cases h0 : cap = l
        · left; omega
        · right
          rcases hx with h0' | ⟨rfl, e', m, hm, hle⟩
          · omega
          · rw [if_neg h0, add_none _ rfl]
            refine ⟨by simp [Nat.add_mul], e', m, hm, ?_⟩
            rw [show off + l + (cap - l) = off + cap from by omega]; exact hle
  · rename_i e hk
    have hd := ht.sl hk
    have hu := ht.und; rw [hd] at hu
    split at h <;> cases h
    rename_i ei hei hl hh'
    obtain ⟨i2, d2, z2, ht2⟩ := hT.get hei
    have b1 := abound_ok (y := 0) h1 h2 hl
    have b2 := abound_ok (y := 0) h3 h4 hh'
    simp only [VR] at hx
    subst hx
    refine ⟨.slice none 0 0, ?_, by simp [VR, anil]⟩
    simp [Instr.sliceAt, run_underlying hu, Instr.slice, bounds_run (cap := 0) (len := 0) b1 b2 (Nat.le_refl _) (Nat.le_refl _) (Nat.le_refl _), ht2.run_size]
  · rename_i s hk
    have hd := ht.str hk
    have hu := ht.und; rw [hd] at hu
    split at h <;> try cases h
    rename_i l hh hl hh'
    split at h <;> cases h
    rename_i hc
    have b1 := abound_ok (y := 0) h1 h2 hl
    have b2 := abound_ok (y := 0) h3 h4 hh'
    simp only [VR] at hx
    subst hx
    refine ⟨.string (s.extract l hh), ?_, by simp [VR, astr]⟩
    simp [Instr.sliceAt, run_underlying hu, Instr.slice, bounds_run b1 b2 hc.1 hc.2 (Nat.le_refl _)]

theorem aconv_run (hT : TabOK P T) {s d : Nat} {x z : AV} {u : Value} (hx : VR g x u) (h : aconv T s d x = some z) : ∃ r, (convert s d u).run P w = .ok r w ∧ VR g z r := by
  unfold aconv at h
  split at h <;> try cases h
  rename_i si di hsi hdi
  obtain ⟨i1, d1, z1, ht1⟩ := hT.get hsi
  obtain ⟨i2, d2, z2, ht2⟩ := hT.get hdi
  split at h <;> cases h
  · rename_i hk1 hk2
    have e1 := ht1.int hk1; have e2 := ht2.int hk2
    subst e1; subst e2
    simp only [VR] at hx; subst hx
    exact ⟨_, by simp [convert, ht1.run_und, ht2.run_und, Conv.intToInt]; rfl, by simp [VR]⟩
  · rename_i hk1 hk2
    have e1 := ht1.str hk1; have e2 := ht2.str hk2
    subst e1; subst e2
    simp only [VR] at hx; subst hx
    exact ⟨_, by simp [convert, ht1.run_und, ht2.run_und]; rfl, by simp [VR]⟩

theorem alen_run (hT : TabOK P T) {t : Nat} {tys : Array TypeId} {ty : TypeId} {args : Array Value} {x z : AV} {u : Value} (h0 : tys[0]? = some t) (h1 : args[0]? = some u) (hx : VR g x u) (h : alen T t x = some z) :
    ∃ r, (Builtin.len_ tys ty args).run P w = .ok r w ∧ VR g z r := by
  unfold alen at h
  split at h <;> try cases h
  rename_i ti hti
  obtain ⟨ii, d, z0, ht⟩ := hT.get hti
  split at h <;> cases h
  · rename_i hk
    have e := ht.sl hk; subst e
    simp only [VR] at hx
    obtain ⟨A, cap, rfl, _⟩ := hx
    exact ⟨_, by simp [Builtin.len_, h0, h1, ht.run_und]; rfl, by simp [VR, aint, goInt]⟩
  · rename_i hk
    have e := ht.sl hk; subst e
    simp only [VR] at hx
    obtain ⟨A, cap, rfl, _⟩ := hx
    exact ⟨_, by simp [Builtin.len_, h0, h1, ht.run_und]; rfl, by simp [VR, aint, goInt]⟩
  · rename_i hk
    have e := ht.sl hk; subst e
    simp only [VR] at hx; subst hx
    exact ⟨_, by simp [Builtin.len_, h0, h1, ht.run_und]; rfl, by simp [VR, aint, goInt]⟩
  · rename_i hk
    have e := ht.str hk; subst e
    simp only [VR] at hx; subst hx
    exact ⟨_, by simp [Builtin.len_, h0, h1, ht.run_und]; rfl, by simp [VR, aint, goInt]⟩
  · rename_i n hk
    have e := ht.arr hk; subst e
    exact ⟨_, by simp [Builtin.len_, h0, h1, ht.run_und]; rfl, by simp [VR, aint, goInt]⟩

end
end Go.Proofs.YtggcmnoacplbkaaDoor.AM
