/- ItemsGlues: a part of its proof (packed by a program). -/
import Derived.Test.YtpkhmfedaaoalaaGreatDoorAm1
import Derived.WalkSpells
set_option linter.all false
namespace Go.Proofs.YtpkhmfedaaoalaaGreatDoor.AM
open Go
theorem K1 (a:Addr) (h:a.spot = none) (n:Nat):a.add n = ⟨a.block,a.off+n,none⟩:=by
 unfold Addr.add
 split
 ·rename_i e; subst e; cases a; simp at h; simp [h]
 ·simp
section
variable {P:Program} {T:Tab} {g:Gh} {w:World}
theorem eqIn_bool (n:Nat) {t:Nat} (h:P.underlying t = some .bool) (a b:Bool):(Op.equalIn (n+1) t (.bool a) (.bool b)).run P w = .ok (a == b) w:=by
 simp [Op.equalIn,run_underlying h]
theorem Wea (n:Nat) {t e:Nat} (h:P.underlying t = some (.slice e)) (A:Option Addr) (k c:Nat):(Op.equalIn (n+1) t (.slice A k c) (.slice none 0 0)).run P w = .ok A.isNone w:=by
 cases A <;> simp [Op.equalIn,run_underlying h]
theorem Ysa (n:Nat) {t e:Nat} (h:P.underlying t = some (.pointer e)) (A:Option Addr):(Op.equalIn (n+1) t (.pointer A) (.pointer none)).run P w = .ok A.isNone w:=by
 cases A <;> simp [Op.equalIn,run_underlying h]
theorem eqIn_fn_nil (n:Nat) {t:Nat} {a b:Array TypeId} {c:Bool} (h:P.underlying t = some (.func a b c)) (f:Fn) (x y:Array Value):(Op.equalIn (n+1) t (.func f x y) .nilFunc).run P w = .ok false w:=by
 simp [Op.equalIn,run_underlying h]
theorem Zna {t:Nat} {u v:Value} {b:Bool} (ox oy:Operand) (hk:∀ (k k':IntKind) m n,¬ (u = .int k m∧v = .int k' n)) (hs:∀ m n,¬ (u = .string m∧v = .string n))
  (he:∀ op:BinOp,(eqGuard op t ox oy u v).run P w = .ok () w) (hop:∀ (op:BinOp),(binOp .eql t u v = do pure (.bool (← Op.equal t u v)))∧(binOp .neq t u v = do pure (.bool (!(← Op.equal t u v)))))
  (h:(Op.equalIn (9999+1) t u v).run P w = .ok b w) :
  (do eqGuard .eql t ox oy u v; binOp .eql t u v:Sem Value).run P w = .ok (.bool b) w∧(do eqGuard .neq t ox oy u v; binOp .neq t u v:Sem Value).run P w = .ok (.bool (!b)) w:=by
 have h':(Op.equal t u v).run P w = .ok b w:=h
 constructor
 ·rw [Sem.run_bind,he .eql,Result.andThen_ok,(hop .eql).1,Sem.run_bind,h']; rfl
 ·rw [Sem.run_bind,he .neq,Result.andThen_ok,(hop .eql).2,Sem.run_bind,h']; rfl
theorem abin_int_run {op:BinOp} {t:Nat} {k k':IntKind} {a b:Int} {z:AV} {tk:TK} {ox oy:Operand}
  (h:abin op tk (.val (.int k a)) (.val (.int k' b)) = some z) :
  ∃ r,(do eqGuard op t ox oy (.int k a) (.int k' b); binOp op t (.int k a) (.int k' b):Sem Value).run P w = .ok r w∧VR g z r:=by
 have hg:∀ op:BinOp,(eqGuard op t ox oy (.int k a) (.int k' b)).run P w = .ok () w:=by intro op; cases op <;> simp [eqGuard]
 rw [Sem.run_bind,hg,Result.andThen_ok]
 unfold abin at h
 cases op <;> simp only at h
 all_goals (split at h <;> try cases h)
 all_goals (try (rename_i hk; subst hk))
 all_goals first
  | exact ⟨_,by simp [binOp,Op.intArith,Op.intBits,Op.intCmp]; rfl,by simp [VR,Zk]⟩
  | (rename_i hb; exact ⟨_,by simp [binOp,Op.shift,show ¬ b < 0 from by omega]; rfl,by simp [VR]⟩)
  | (split at h <;> cases h; rename_i hb; exact ⟨_,by simp [binOp,Op.intDiv,hb]; rfl,by simp [VR]⟩)
theorem abin_str_run {op:BinOp} {t:Nat} {a b:ByteArray} {z:AV} {tk:TK} {ox oy:Operand}
  (h:abin op tk (.val (.string a)) (.val (.string b)) = some z) :
  ∃ r,(do eqGuard op t ox oy (.string a) (.string b); binOp op t (.string a) (.string b):Sem Value).run P w = .ok r w∧VR g z r:=by
 have hg:∀ op:BinOp,(eqGuard op t ox oy (.string a) (.string b)).run P w = .ok () w:=by intro op; cases op <;> simp [eqGuard]
 rw [Sem.run_bind,hg,Result.andThen_ok]
 unfold abin at h
 cases op <;> simp only at h <;> try cases h
 case add=>
  split at h <;> cases h
  rename_i hb
  have:¬ (((a.size+b.size:Nat):Int) > IntKind.i64.max):=by
   show ¬ (((a.size+b.size:Nat):Int) > 9223372036854775807); omega
  exact ⟨.string (a++b),by simp only [binOp,Op.stringOp]; rw [if_neg this]; simp,by simp [VR,astr]⟩
 all_goals (exact ⟨_,by simp [binOp,Op.stringOp]; rfl,by simp [VR,Zk]⟩)
theorem abin_run {op:BinOp} {t:Nat} {ti:TI} {i:TypeInfo} {d:TypeDesc} {z0:Value} (ht:TIs P t ti i d z0) {x y z:AV} {ox oy:Operand} {u v:Value}
  (hx:VR g x u) (hy:VR g y v) (h:abin op ti.kind x y = some z) :
  ∃ r,(do eqGuard op t ox oy u v; binOp op t u v:Sem Value).run P w = .ok r w∧VR g z r:=by
 have fin:∀ {u v:Value} {b:Bool} (op:BinOp),(op = .eql∧z = Zk b)∨(op = .neq∧z = Zk (!b)) →
   ((do eqGuard .eql t ox oy u v; binOp .eql t u v:Sem Value).run P w = .ok (.bool b) w∧(do eqGuard .neq t ox oy u v; binOp .neq t u v:Sem Value).run P w = .ok (.bool (!b)) w) →
   ∃ r,(do eqGuard op t ox oy u v; binOp op t u v:Sem Value).run P w = .ok r w∧VR g z r:=by
  rintro u v b op (⟨rfl,rfl⟩ | ⟨rfl,rfl⟩) hh
  ·exact ⟨_,hh.1,by simp [VR,Zk]⟩
  ·exact ⟨_,hh.2,by simp [VR,Zk]⟩
 have h0:=h
 unfold abin at h
 split at h
 ·simp only [VR] at hx hy; subst hx; subst hy
  exact abin_int_run h0
 ·simp only [VR] at hx hy; subst hx; subst hy
  exact abin_str_run h0
 ·simp only [VR] at hx hy; subst hx; subst hy
  rename_i a b
  split at h <;> cases h
  all_goals
   rename_i hk
   have hu:=ht.und; rw [ht.boolean hk] at hu
   refine fin (b:=a == b) _ (by simp) (Zna ox oy (by simp) (by simp) (by intro op; cases op <;> simp [eqGuard]) (by simp [binOp]) (eqIn_bool _ hu a b))
 ·simp only [VR] at hx hy; subst hx; subst hy
  split at h <;> cases h
  all_goals
   rename_i hk
   have hu:=ht.und; rw [ht.sl hk] at hu
   exact fin (b:=true) _ (by simp) (Zna ox oy (by simp) (by simp) (by intro op; cases op <;> simp [eqGuard]) (by simp [binOp]) (Wea _ hu none 0 0))
 ·simp only [VR] at hx hy; subst hy
  obtain ⟨aa,cap,rfl,_⟩:=hx
  split at h <;> cases h
  all_goals
   rename_i hk
   have hu:=ht.und; rw [ht.sl hk] at hu
   exact fin (b:=false) _ (by simp) (Zna ox oy (by simp) (by simp) (by intro op; cases op <;> simp [eqGuard]) (by simp [binOp]) (Wea _ hu (some aa) _ _))
 ·simp only [VR] at hx hy; subst hy
  obtain ⟨A,cap,rfl,_,hx⟩:=hx
  have:∃ aa,A = some aa:=by
   rcases hx with hx | ⟨aa,_,_,_,rfl,_⟩
   ·simp at hx
   ·exact ⟨aa,rfl⟩
  obtain ⟨aa,rfl⟩:=this
  split at h <;> cases h
  all_goals
   rename_i hk
   have hu:=ht.und; rw [ht.sl hk] at hu
   exact fin (b:=false) _ (by simp) (Zna ox oy (by simp) (by simp) (by intro op; cases op <;> simp [eqGuard]) (by simp [binOp]) (Wea _ hu (some aa) _ _))
 ·simp only [VR] at hx hy; subst hx; subst hy
  split at h <;> cases h
  all_goals
   rename_i hk
   have hu:=ht.und; rw [ht.ptr hk] at hu
   exact fin (b:=false) _ (by simp) (Zna ox oy (by simp) (by simp) (by intro op; cases op <;> simp [eqGuard]) (by simp [binOp]) (Ysa _ hu (some _)))
 ·simp only [VR] at hx hy; subst hx; subst hy
  split at h <;> cases h
  all_goals
   rename_i hk
   have hu:=ht.und; rw [ht.ptr hk] at hu
   exact fin (b:=false) _ (by simp) (Zna ox oy (by simp) (by simp) (by intro op; cases op <;> simp [eqGuard]) (by simp [binOp]) (Ysa _ hu (some _)))
 ·simp only [VR] at hx hy; subst hy
  obtain ⟨aa,c,e,fr,rfl,_⟩:=hx
  split at h <;> cases h
  all_goals
   rename_i hk
   have hu:=ht.und; rw [ht.ptr hk] at hu
   exact fin (b:=false) _ (by simp) (Zna ox oy (by simp) (by simp) (by intro op; cases op <;> simp [eqGuard]) (by simp [binOp]) (Ysa _ hu (some _)))
 ·simp only [VR] at hx hy; subst hx; subst hy
  split at h <;> cases h
  all_goals
   rename_i hk
   have hu:=ht.und; rw [ht.ptr hk] at hu
   exact fin (b:=true) _ (by simp) (Zna ox oy (by simp) (by simp) (by intro op; cases op <;> simp [eqGuard]) (by simp [binOp]) (Ysa _ hu none))
 ·simp only [VR] at hx hy; subst hy
  obtain ⟨fs,cs,rfl,_⟩:=hx
  split at h <;> cases h
  all_goals
   rename_i hk
   have hd:∃ a b c,d = .func a b c:=by
    have:=ht.kind
    rw [hk] at this
    cases d <;> simp [Kw] at this
    exact ⟨_,_,_,rfl⟩
   obtain ⟨_,_,_,rfl⟩:=hd
   exact fin (b:=false) _ (by simp) (Zna ox oy (by simp) (by simp) (by intro op; cases op <;> simp [eqGuard]) (by simp [binOp]) (eqIn_fn_nil _ ht.und _ _ _))
 ·cases h
theorem Vp {t:Nat} {d:TypeDesc} (h:P.underlying t = some d) (hd:(Kw d).agg = false) {cs:Array Value} {off:Nat} {v:Value} (hv:cs[off]? = some v):(part t cs off).run P w = .ok v w:=by
 have:(isAgg t).run P w = .ok false w:=by
  unfold isAgg
  rw [Sem.run_bind,run_underlying h]
  cases d <;> simp [Kw,TK.agg] at hd <;> simp
 simp [part,this,hv]
theorem Wma {xs ys:List AV} {b:List (Nat×TK)}:∀ {a:List (Nat×TK)} {r:Bool},aeqs (a++b) xs ys = some r→∃ r1 r2,aeqs a xs ys = some r1∧aeqs b xs ys = some r2∧r = (r1 && r2)
 | [],r,h=>⟨true,r,rfl,h,rfl⟩
 | (off,k) :: a,r,h=>by
  simp only [List.cons_append,aeqs] at h ⊢
  split at h <;> try cases h
  ·rename_i q hxa hyb hq
   obtain ⟨r1,r2,h1,h2,rfl⟩:=Wma hq
   split at h <;> cases h
   rename_i hk
   rw [hxa,hyb,h1]
   simp only [hk,if_true]
   exact ⟨_,r2,rfl,h2,(Bool.and_assoc _ _ _).symm⟩
  ·rename_i q hxa hyb hq
   obtain ⟨r1,r2,h1,h2,rfl⟩:=Wma hq
   rw [hxa,hyb,h1]
   exact ⟨_,r2,rfl,h2,(Bool.and_assoc _ _ _).symm⟩
  ·rename_i q hxa hyb hq
   obtain ⟨r1,r2,h1,h2,rfl⟩:=Wma hq
   rw [hxa,hyb,h1]
   exact ⟨_,r2,rfl,h2,(Bool.and_assoc _ _ _).symm⟩
theorem Z9b {xs ys:List AV} {us vs:Array Value} {off:Nat} {e:Nat} {k:IntKind} (hk:P.underlying e = some (.int k)) (n:Nat) :
  ∀ (is:List Nat) (hx:∀ i∈is,∀ x,xs[off+i]? = some x→∃ v,us[i]? = some v∧VR g x v) (hy:∀ i∈is,∀ x,ys[off+i]? = some x→∃ v,vs[i]? = some v∧VR g x v) (r:Bool),
   aeqs (is.map fun i=>(off+i,.int k)) xs ys = some r→(Op.eqItems (n+1) e 1 us vs is).run P w = .ok r w
 | [],_,_,r,h=>by simp only [List.map_nil,aeqs] at h; cases h; simp [Op.eqItems]
 | i :: is,hx,hy,r,h=>by
  simp only [List.map_cons,aeqs] at h
  split at h <;> try cases h
  ·rename_i k1 k2 a k3 b q hkk hxa hyb hq
   split at h <;> cases h
   rename_i hk2; subst hk2
   obtain ⟨u,u1,u2⟩:=hx i (by simp) _ hxa
   obtain ⟨v,v1,v2⟩:=hy i (by simp) _ hyb
   simp only [VR] at u2 v2
   subst u2; subst v2
   have ih:=Z9b hk n is (fun j hj=>hx j (List.mem_cons_of_mem _ hj)) (fun j hj=>hy j (List.mem_cons_of_mem _ hj)) q hq
   have he:(Op.equalIn (n+1) e (.int k2 a) (.int k2 b)).run P w = .ok (decide (a = b)) w:=by
    rw [run_equalIn_int w n e _ _ a b hk]; rfl
   simp only [Op.eqItems,Sem.run_bind,Nat.mul_one,Vp (w:=w) hk rfl u1,Vp (w:=w) hk rfl v1,Result.andThen_ok,he]
   cases hd:decide (a = b) <;> simp [ih]
  all_goals (rename_i hkk _ _ _; cases hkk)
theorem aeqs_items {xs ys:List AV} {us vs:Array Value} (hx:Zp g us 0 xs) (hy:Zp g vs 0 ys) {e:Nat} {k:IntKind} (hk:P.underlying e = some (.int k)) (n:Nat)
  (is:List Nat) (r:Bool) (h:aeqs (is.map fun i=>(i,.int k)) xs ys = some r):(Op.eqItems (n+1) e 1 us vs is).run P w = .ok r w:=by
 have get:∀ (l:List AV) (c:Array Value),Zp g c 0 l→∀ i∈is,∀ x,l[0+i]? = some x→∃ v,c[i]? = some v∧VR g x v:=by
  intro l c hc i _ x hl
  obtain ⟨v,h1,_,h3⟩:=hc.get (by simpa using hl)
  rw [Nat.zero_add] at h1
  exact ⟨v,h1,h3⟩
 exact Z9b (off:=0) hk n is (get xs us hx) (get ys vs hy) r (by simpa only [Nat.zero_add] using h)
theorem part_arr {t m e:Nat} {fi:TypeInfo} (h:P.underlying t = some (.array m e)) (hi:P.info? t = some fi) (cs:Array Value) (off:Nat):(part t cs off).run P w = .ok (.agg (cs.extract off (off+fi.size))) w:=by
 have:(isAgg t).run P w = .ok true w:=by
  unfold isAgg
  rw [Sem.run_bind,run_underlying h]
  simp
 simp [part,this,run_sizeOf w hi,Program.cellsOf,hi]
theorem field_run {xs ys:List AV} {us vs:Array Value} (hx:Zp g us 0 xs) (hy:Zp g vs 0 ys) (n:Nat) {f:Field} {p:List (Nat×TK)} {c:Bool} (hf:Y0a P f = some p) (e:aeqs p xs ys = some c) :
  f.name ≠ "_"∧∃ u v,(part f.type us f.offset).run P w = .ok u w∧(part f.type vs f.offset).run P w = .ok v w∧(Op.equalIn (n+2) f.type u v).run P w = .ok c w:=by
 have get:∀ (l:List AV) (c:Array Value) (o:Nat) (x:AV),Zp g c 0 l→l[o]? = some x→∃ v,c[o]? = some v∧VR g x v:=by
  intro l c o x hc hl
  obtain ⟨v,h1,_,h3⟩:=hc.get hl
  rw [Nat.zero_add] at h1
  exact ⟨v,h1,h3⟩
 unfold Y0a at hf
 split at hf
 ·cases hf
 rename_i hname
 refine ⟨hname,?_⟩
 split at hf <;> try cases hf
 ·rename_i k hund
  simp only [aeqs] at e
  split at e <;> try cases e
  ·rename_i k1 k2 a k3 b q _ hxa hyb hq
   cases hq
   split at e <;> cases e
   rename_i hkk; subst hkk
   obtain ⟨u,u1,u2⟩:=get xs us _ _ hx hxa
   obtain ⟨v,v1,v2⟩:=get ys vs _ _ hy hyb
   simp only [VR] at u2 v2
   subst u2; subst v2
   refine ⟨_,_,Vp (w:=w) hund rfl u1,Vp (w:=w) hund rfl v1,?_⟩
   rw [run_equalIn_int w (n+1) f.type _ _ a b hund]; simp only [Bool.and_true]; rfl
  all_goals (rename_i hkk _ _ _; cases hkk)
 ·rename_i hund
  simp only [aeqs] at e
  split at e <;> try cases e
  ·rename_i hkk _ _ _; cases hkk
  ·rename_i hkk _ _ _; cases hkk
  ·rename_i a b q _ hxa hyb hq
   cases hq
   obtain ⟨u,u1,u2⟩:=get xs us _ _ hx hxa
   obtain ⟨v,v1,v2⟩:=get ys vs _ _ hy hyb
   simp only [VR] at u2 v2
   subst u2; subst v2
   refine ⟨_,_,Vp (w:=w) hund rfl u1,Vp (w:=w) hund rfl v1,?_⟩
   rw [run_equalIn_bool' w (n+1) f.type a b hund]
   cases a <;> cases b <;> rfl
 ·rename_i hund
  simp only [aeqs] at e
  split at e <;> try cases e
  ·rename_i hkk _ _ _; cases hkk
  ·rename_i a b q _ hxa hyb hq
   cases hq
   obtain ⟨u,u1,u2⟩:=get xs us _ _ hx hxa
   obtain ⟨v,v1,v2⟩:=get ys vs _ _ hy hyb
   simp only [VR] at u2 v2
   subst u2; subst v2
   refine ⟨_,_,Vp (w:=w) hund rfl u1,Vp (w:=w) hund rfl v1,?_⟩
   rw [run_equalIn_string w (n+1) f.type a b hund]
   congr 1
   by_cases h:a.toList = b.toList <;> simp [h]
  ·rename_i hkk _ _ _; cases hkk
 ·rename_i m el hund
  split at hf <;> try cases hf
  rename_i k ie fi hk hie hfi
  split at hf <;> cases hf
  rename_i hc
  obtain ⟨_,hc1,hc2⟩:=hc
  refine ⟨_,_,part_arr hund hfi us f.offset,part_arr hund hfi vs f.offset,?_⟩
  rw [run_equalIn_array w (n+1) _ _ hund hie,hc1]
  have sub:∀ (l:List AV) (c:Array Value),Zp g c 0 l→∀ i∈List.range m,∀ x,l[f.offset+i]? = some x→∃ v,(c.extract f.offset (f.offset+fi.size))[i]? = some v∧VR g x v:=by
   intro l c hcl i hi x hl
   obtain ⟨v,h1,h2⟩:=get l c _ x hcl hl
   have hlt:=(Array.getElem?_eq_some_iff.1 h1).1
   have him:=List.mem_range.1 hi
   refine ⟨v,?_,h2⟩
   rw [Array.getElem?_extract,if_pos (by omega)]
   exact h1
  exact Z9b (off:=f.offset) hk n (List.range m) (sub xs us hx) (sub ys vs hy) _ e
theorem aeqs_run {xs ys:List AV} {us vs:Array Value} (hx:Zp g us 0 xs) (hy:Zp g vs 0 ys) (n:Nat) :
  ∀ (fs:List Field) (es:List (List (Nat×TK))) (r:Bool),fs.mapM (Y0a P) = some es→aeqs es.flatten xs ys = some r→(Op.eqFields (n+2) us vs fs).run P w = .ok r w
 | [],es,r,h,e=>by simp at h; subst h; simp only [List.flatten_nil,aeqs] at e; cases e; rfl
 | f :: fs,es,r,h,e=>by
  simp only [List.mapM_cons,Option.bind_eq_bind,Option.pure_def] at h
  cases hf:Y0a P f with
  | none=>simp [hf] at h
  | some p=>
   cases hr:fs.mapM (Y0a P) with
   | none=>simp [hf,hr] at h
   | some rest=>
    simp [hf,hr] at h
    subst h
    rw [List.flatten_cons] at e
    obtain ⟨c,q,e1,e2,rfl⟩:=Wma e
    obtain ⟨hname,u,v,h1,h2,h3⟩:=field_run (w:=w) hx hy n hf e1
    have hq:=aeqs_run hx hy n fs rest q hr e2
    simp only [Op.eqFields,ne_eq,hname,not_false_eq_true,if_true,Sem.run_bind,h1,h2,Result.andThen_ok,h3,Sem.run_ite,Sem.run_pure,hq]
    cases c <;> simp
theorem abin2_run {op:BinOp} {t:Nat} {ti:TI} {i:TypeInfo} {d:TypeDesc} {z0:Value} (ht:TIs P t ti i d z0) {x y z:AV} {ox oy:Operand} {u v:Value}
  (hx:VR g x u) (hy:VR g y v) (h:Y5a op ti x y = some z) :
  ∃ r,(do eqGuard op t ox oy u v; binOp op t u v:Sem Value).run P w = .ok r w∧VR g z r:=by
 unfold Y5a at h
 split at h
 ·rename_i xs ys
  simp only [VR] at hx hy
  obtain ⟨us,rfl,hx,_⟩:=hx
  obtain ⟨vs,rfl,hy,_⟩:=hy
  have key:∀ es,ti.eqs = some es→∀ r,aeqs es xs ys = some r→∀ op:BinOp,(eqGuard op t ox oy (.agg us) (.agg vs)).run P w = .ok () w∧(Op.equalIn 10000 t (.agg us) (.agg vs)).run P w = .ok r w:=by
   intro es hes r hr op
   have he:=ht.eqs
   rw [hes] at he
   unfold eqsOf at he
   split at he <;> try cases he
   ·rename_i fs
    split at he <;> try cases he
    rename_i es' hfs
    split at he <;> cases he
    rename_i hn
    simp only [Bool.or_eq_true,not_or,Bool.not_eq_true] at hn
    have hf:P.fieldsOf t = fs:=by simp [Program.fieldsOf,ht.und]
    refine ⟨run_eqGuard_agg w op t ox oy us vs hn.2,?_⟩
    rw [run_equalIn_struct w 9999 t us vs (by rw [hf]; exact ht.und) hn.1,hf]
    exact aeqs_run hx hy 9997 _ _ r hfs hr
   ·rename_i n e
    split at he <;> try cases he
    rename_i k hk
    split at he <;> cases he
    rename_i hn
    simp only [Bool.and_eq_true,Bool.not_eq_true',beq_iff_eq,Option.isSome_iff_exists] at hn
    obtain ⟨⟨⟨i0,hi⟩,hc⟩,hg⟩:=hn
    refine ⟨run_eqGuard_agg w op t ox oy us vs hg,?_⟩
    rw [run_equalIn_array w 9999 us vs ht.und hi,hc]
    exact aeqs_items hx hy hk 9998 _ r hr
  split at h
  ·rename_i es hes
   cases hr:aeqs es xs ys with
   | none=>rw [hr] at h; cases h
   | some r=>
    rw [hr] at h; cases h
    obtain ⟨k1,k2⟩:=key es hes r hr .eql
    refine ⟨.bool r,?_,by simp [VR,Zk]⟩
    rw [Sem.run_bind,k1,Result.andThen_ok,run_eql_struct,k2]; rfl
  ·rename_i es hes
   cases hr:aeqs es xs ys with
   | none=>rw [hr] at h; cases h
   | some r=>
    rw [hr] at h; cases h
    obtain ⟨k1,k2⟩:=key es hes r hr .neq
    refine ⟨.bool (!r),?_,by simp [VR,Zk]⟩
    rw [Sem.run_bind,k1,Result.andThen_ok,run_neq_struct,k2]; rfl
  ·cases h
 ·exact abin_run ht hx hy h
theorem aun_run {op:UnOp} {x z:AV} {u:Value} (hx:VR g x u) (h:aun op x = some z):∃ r,(Op.unary op u).run P w = .ok r w∧VR g z r:=by
 unfold aun at h
 split at h <;> cases h
 ·simp only [VR] at hx; subst hx
  exact ⟨_,by simp [Op.unary,Op.intArith]; rfl,by simp [VR]⟩
 ·simp only [VR] at hx; subst hx
  exact ⟨_,by simp [Op.unary]; rfl,by simp [VR,Zk]⟩
theorem apart_one {ti:TI} {cs:List AV} {off:Nat} {z:AV} {c:Array Value} {o:Nat} (hc:Zp g c o cs) (ha:ti.kind.agg = false) (h:apart ti cs off = some z) :
  ∃ v,c[o+off]? = some v∧VR g z v:=by
 unfold apart at h
 rw [if_neg (by simp [ha])] at h
 obtain ⟨v,hv,_,hr⟩:=hc.get h
 exact ⟨v,hv,hr⟩
theorem apart_agg {ti:TI} {cs:List AV} {off:Nat} {z:AV} {c:Array Value} {o:Nat} (hc:Zp g c o cs) (ha:ti.kind.agg = true) (h:apart ti cs off = some z) :
  VR g z (.agg (c.extract (o+off) (o+off+ti.size)))∧∀ j,j < ti.size→∃ v,c[o+off+j]? = some v:=by
 unfold apart at h
 rw [if_pos ha] at h
 split at h <;> cases h
 rename_i hle
 have hd:=(hc.drop off).take ti.size
 have hlen:((cs.drop off).take ti.size).length = ti.size:=by simp; omega
 constructor
 ·simp only [VR]
  refine ⟨_,rfl,?_,?_⟩
  ·refine hd.congr fun k hk=>?_
   rw [hlen] at hk
   simp [Array.getElem?_extract]
   intro hle2
   omega
  ·rw [hlen,Array.size_extract]
   rcases hd.bound with h0 | hb
   ·have:ti.size = 0:=by rw [← hlen,h0]; rfl
    omega
   ·rw [hlen] at hb; omega
 ·intro j hj
  have hget:((cs.drop off).take ti.size)[j]? = some ((cs.drop off).take ti.size)[j]:=List.getElem?_eq_getElem (by omega)
  obtain ⟨v,hv,_⟩:=hd.get hget
  exact ⟨v,hv⟩
theorem cell_of {b off:Nat} {c:Array Value} {e:TypeId} {fr:Nat×Nat} (hb:w.heap[b]? = some (.cells c e fr)):w.cell? ⟨b,off,none⟩ = c[off]?:=by
 simp [World.cell?,hb]
theorem load_run (hT:Kb P T) {t:Nat} {ti:TI} {i:TypeInfo} {d:TypeDesc} {z0:Value} (ht:TIs P t ti i d z0) {cs:List AV} {off:Nat} {z:AV} {c:Array Value} {o:Nat}
  (hc:Zp g c o cs) (h:apart ti cs off = some z) {a:Addr} (hs:a.spot = none) (ho:a.off = o+off) {e:TypeId} {fr:Nat×Nat} (hb:w.heap[a.block]? = some (.cells c e fr)) :
  ∃ r,(loadVar t a).run P w = .ok r w∧VR g z r:=by
 by_cases ha:ti.kind.agg = true
 ·obtain ⟨h1,h2⟩:=apart_agg hc ha h
  refine ⟨_,?_,h1⟩
  have hl:((c.extract (o+off) (o+off+ti.size)).toList).length = ti.size:=by
   have hx:∀ j,j < ti.size→o+off+j < c.size:=fun j hj=>by
    obtain ⟨v,hv⟩:=h2 j hj
    exact (Array.getElem?_eq_some_iff.1 hv).1
   rw [Array.length_toList,Array.size_extract]
   by_cases h0:ti.size = 0
   ·omega
   ·have:=hx (ti.size - 1) (by omega); omega
  have key:=run_loadCells_list (P:=P) w a (c.extract (o+off) (o+off+ti.size)).toList (fun j v hv=>by
   rw [K1 a hs,cell_of hb,ho]
   have hj:j < ti.size:=by
    have:=(List.getElem?_eq_some_iff.1 hv).1; omega
   have hv':(c.extract (o+off) (o+off+ti.size))[j]? = some v:=by rw [← Array.getElem?_toList]; exact hv
   rw [Array.getElem?_extract] at hv'
   split at hv'
   ·exact hv'
   ·cases hv')
  rw [hl,Array.toArray_toList] at key
  simp [loadVar,ht.run_agg,ha,ht.run_size,key]
 ·have ha':ti.kind.agg = false:=by simpa using ha
  obtain ⟨v,hv,hr⟩:=apart_one hc ha' h
  refine ⟨v,?_,hr⟩
  have hcell:w.cell? a = some v:=by
   have:a = ⟨a.block,a.off,none⟩:=by cases a; simp at hs; simp [hs]
   rw [this,cell_of hb,ho,hv]
  simp [loadVar,ht.run_agg,ha,hcell]
theorem afield_ok (hT:Kb P T) {t f off:Nat} {fi:TI} (h:afield T t f = some (off,fi)) :
  ∃ fields fd i d z,P.underlying t = some (.struct fields)∧fields[f]? = some fd∧fd.offset = off∧TIs P fd.type fi i d z∧fi.size≠0:=by
 unfold afield at h
 split at h <;> try cases h
 rename_i ti hti
 split at h <;> try cases h
 rename_i fs hk
 split at h <;> try cases h
 rename_i off' ft hf
 split at h <;> try cases h
 rename_i fi' hfi
 split at h <;> cases h
 rename_i hne
 obtain ⟨i,d,z,ht⟩:=hT.get hti
 obtain ⟨fields,rfl,hfs⟩:=ht.struct hk
 obtain ⟨i2,d2,z2,ht2⟩:=hT.get hfi
 rw [← hfs,List.getElem?_map] at hf
 cases e:fields.toList[f]? with
 | none=>rw [e] at hf; cases hf
 | some fd=>
  rw [e] at hf; cases hf
  exact ⟨fields,fd,i2,d2,z2,ht.und,by simpa using e,rfl,ht2,hne⟩
theorem Yza {a:Addr} {fd:Field} {ti:TI} {i:TypeInfo} {d:TypeDesc} {z0:Value} (ht:TIs P fd.type ti i d z0) (hn:ti.size≠0) (hs:a.spot = none) :
  (fieldPlace a fd).run P w = .ok ⟨a.block,a.off+fd.offset,none⟩ w:=by
 simp [fieldPlace,ht.run_size,hn,K1 a hs]
theorem afieldAddr_run (hT:Kb P T) {t f:Nat} {x z:AV} {u:Value} (hx:VR g x u) (h:Kl T t x f = some z) :
  ∃ r,(Instr.fieldAt t u f).run P w = .ok r w∧VR g z r:=by
 unfold Kl at h
 split at h <;> try cases h
 rename_i off fi hf
 obtain ⟨fields,fd,i,d,z0,hu,hfd,rfl,ht,hne⟩:=afield_ok hT hf
 split at h <;> try cases h
 ·simp only [VR] at hx
  obtain ⟨a,c,e,fr,rfl,hs,hc,hfz,hr⟩:=hx
  refine ⟨.pointer (some ⟨a.block,a.off+fd.offset,none⟩),?_,?_⟩
  ·simp [Instr.fieldAt,run_underlying hu,hfd,Instr.sureAddr,Yza ht hne hs]
  ·simp only [VR]
   exact ⟨_,c,e,fr,rfl,rfl,by simp; omega,hfz,by simpa [Nat.add_sub_add_right] using hr⟩
 ·simp only [VR] at hx
  subst hx
  rename_i b sz i c
  refine ⟨.pointer (some ⟨b,i * sz+c+fd.offset,none⟩),?_,?_⟩
  ·simp [Instr.fieldAt,run_underlying hu,hfd,Instr.sureAddr,Yza ht hne]
  ·simp [VR,Nat.add_assoc]
 ·rename_i b c
  split at h <;> cases h
  simp only [VR] at hx
  subst hx
  refine ⟨.pointer (some ⟨b,c+fd.offset,none⟩),?_,?_⟩
  ·simp [Instr.fieldAt,run_underlying hu,hfd,Instr.sureAddr,Yza ht hne]
  ·simp [VR]
theorem part_run {t:Nat} {ti:TI} {i:TypeInfo} {d:TypeDesc} {z0:Value} (ht:TIs P t ti i d z0) {cs:List AV} {off:Nat} {z:AV} {c:Array Value}
  (hc:Zp g c 0 cs) (h:apart ti cs off = some z):∃ r,(part t c off).run P w = .ok r w∧VR g z r:=by
 by_cases ha:ti.kind.agg = true
 ·obtain ⟨h1,_⟩:=apart_agg hc ha h
  simp only [Nat.zero_add] at h1
  exact ⟨.agg (c.extract off (off+ti.size)),by simp [part,ht.run_agg,ha,ht.run_size],h1⟩
 ·obtain ⟨v,hv,hr⟩:=apart_one hc (by simpa using ha) h
  simp only [Nat.zero_add] at hv
  exact ⟨v,by simp [part,ht.run_agg,ha,hv],hr⟩
theorem afieldOf_run (hT:Kb P T) {t f:Nat} {x z:AV} {u:Value} (hx:VR g x u) (h:Wla T t x f = some z) :
  ∃ r,(Instr.field t u f).run P w = .ok r w∧VR g z r:=by
 unfold Wla at h
 split at h <;> try cases h
 rename_i off fi hf
 obtain ⟨fields,fd,i,d,z0,hu,hfd,rfl,ht,hne⟩:=afield_ok hT hf
 split at h <;> try cases h
 simp only [VR] at hx
 obtain ⟨vs,rfl,hc,hl⟩:=hx
 obtain ⟨r,hr,hv⟩:=part_run (w:=w) ht hc h
 exact ⟨r,by simp [Instr.field,run_underlying hu,hfd,asAgg,hr],hv⟩
theorem atInt_ok {x:AV} {u:Value} {n:Int} (hx:VR g x u) (h:atInt x = some n):∃ k,u = .int k n:=by
 unfold atInt at h
 split at h <;> cases h
 simp only [VR] at hx
 exact ⟨_,hx⟩
theorem aindexAddr_run (hT:Kb P T) {t:Nat} {x i z:AV} {u v:Value} (hx:VR g x u) (hi:VR g i v) (h:Wt T t x i = some z) :
  ∃ r,(Instr.indexAt t u v).run P w = .ok r w∧VR g z r:=by
 unfold Wt at h
 split at h <;> try cases h
 rename_i ti n hti hn
 obtain ⟨k,rfl⟩:=atInt_ok hi hn
 obtain ⟨ii,d,z0,ht⟩:=hT.get hti
 split at h <;> try cases h
 rename_i h0
 split at h <;> try cases h
 ·rename_i e sz rows hk
  split at h <;> try cases h
  rename_i ei hei
  split at h <;> try cases h
  rename_i hsz
  split at h <;> cases h
  rename_i r hr
  obtain ⟨i2,d2,z2,ht2⟩:=hT.get hei
  simp only [VR] at hx
  obtain ⟨A,cap,rfl,hcap,hx⟩:=hx
  have hlt:=(List.getElem?_eq_some_iff.1 hr).1
  rcases hx with rfl | ⟨a,c,e',fr,rfl,hs,hfz,hrows⟩
  ·simp at hlt
  ·have hd:=ht.sl hk
   have hlt':n < (rows.length:Int):=by omega
   refine ⟨.pointer (some ⟨a.block,a.off+n.toNat * sz,none⟩),?_,?_⟩
   ·simp [Instr.indexAt,asIntOf,ht.run_und,hd,h0,hlt',ht2.run_size,hsz,K1 a hs]
   ·simp only [VR]
    refine ⟨_,c,e',fr,rfl,rfl,by simp,hfz,?_⟩
    simpa using (hrows.get hr).2
 ·rename_i e b sz off len hk
  split at h <;> try cases h
  rename_i ei hei
  split at h <;> cases h
  rename_i hc
  obtain ⟨i2,d2,z2,ht2⟩:=hT.get hei
  simp only [VR] at hx
  obtain ⟨a,cap,rfl,hcap,hs,hx⟩:=hx
  have hd:=ht.sl hk
  have hlt':n < (len:Int):=by omega
  rcases hx with h0' | ⟨rfl,e',m,hm,hle⟩
  ·omega
  ·refine ⟨.pointer (some ⟨b,off * sz+n.toNat * sz,none⟩),?_,?_⟩
   ·simp [Instr.indexAt,asIntOf,ht.run_und,hd,h0,hlt',ht2.run_size,hc.1,K1]
   ·simp [VR,Nat.add_mul]
 ·rename_i m e b sz r c hk
  split at h <;> try cases h
  rename_i ei hei
  split at h <;> cases h
  rename_i hc
  obtain ⟨i2,d2,z2,ht2⟩:=hT.get hei
  simp only [VR] at hx
  subst hx
  have hd:=ht.arr hk
  have hlt':n < (m:Int):=by omega
  refine ⟨.pointer (some ⟨b,r * sz+c+n.toNat * ei.size,none⟩),?_,?_⟩
  ·simp [Instr.indexAt,asIntOf,ht.run_und,hd,h0,hlt',ht2.run_size,K1,Instr.sureAddr]
  ·simp [VR,Nat.add_assoc]
 ·rename_i m e r c hk
  split at h <;> try cases h
  rename_i ei hei
  split at h <;> cases h
  rename_i hc
  obtain ⟨i2,d2,z2,ht2⟩:=hT.get hei
  simp only [VR] at hx
  obtain ⟨a,cc,e',fr,rfl,hs,hle,hfz,hr⟩:=hx
  have hd:=ht.arr hk
  have hlt':n < (m:Int):=by omega
  refine ⟨.pointer (some ⟨a.block,a.off+n.toNat * ei.size,none⟩),?_,?_⟩
  ·simp [Instr.indexAt,asIntOf,ht.run_und,hd,h0,hlt',ht2.run_size,K1 a hs,Instr.sureAddr]
  ·simp only [VR]
   exact ⟨_,cc,e',fr,rfl,rfl,by simp; omega,hfz,by simpa [Nat.add_sub_add_right] using hr⟩
theorem aindex_run (hT:Kb P T) {t:Nat} {x i z:AV} {u v:Value} (hx:VR g x u) (hi:VR g i v) (h:Xsb T t x i = some z) :
  ∃ r,(Instr.index t u v).run P w = .ok r w∧VR g z r:=by
 unfold Xsb at h
 split at h <;> try cases h
 rename_i ti n hti hn
 obtain ⟨k,rfl⟩:=atInt_ok hi hn
 obtain ⟨ii,d,z0,ht⟩:=hT.get hti
 split at h <;> try cases h
 rename_i h0
 split at h <;> try cases h
 ·rename_i m e cs hk
  split at h <;> try cases h
  rename_i ei hei
  split at h <;> try cases h
  rename_i hc
  obtain ⟨i2,d2,z2,ht2⟩:=hT.get hei
  simp only [VR] at hx
  obtain ⟨vs,rfl,hcs,hl⟩:=hx
  have hd:=ht.arr hk
  have hlt':n < (m:Int):=by omega
  obtain ⟨r,hr,hv⟩:=part_run (w:=w) ht2 hcs h
  exact ⟨r,by simp [Instr.index,asIntOf,ht.run_und,hd,h0,hlt',ht2.run_size,hr],hv⟩
 ·rename_i s hk
  split at h <;> cases h
  rename_i c hc
  simp only [VR] at hx
  subst hx
  have hd:=ht.str hk
  exact ⟨.int .u8 c.toNat,by simp [Instr.index,asIntOf,ht.run_und,hd,h0,hc],by simp [VR,Yab]⟩
theorem Zma {y d n:Nat} {x:Option AV} {u:Option Value} (hx:∀ a,x = some a→∃ v,u = some v∧VR g a v) (hn:x = none→u = none) (h:Vy d x = some n) :
  (u = none∧n = d)∨∃ k,u = some (.int k n):=by
 unfold Vy at h
 split at h
 ·cases h; exact .inl ⟨hn rfl,rfl⟩
 ·rename_i k m
  split at h <;> cases h
  obtain ⟨v,rfl,hv⟩:=hx _ rfl
  simp only [VR] at hv
  subst hv
  exact .inr ⟨k,by congr 2; omega⟩
 ·cases h
theorem Jba {isSl:Bool} {len cap l h:Nat} {lo hi:Option Value} (hl:(lo = none∧l = 0)∨∃ k,lo = some (.int k l)) (hh:(hi = none∧h = len)∨∃ k,hi = some (.int k h))
  (h1:l≤h) (h2:h≤len) (h3:len≤cap):(Instr.sliceBounds isSl len cap lo hi none).run P w = .ok (l,h,cap) w:=by
 have e1:(0:Int)≤(l:Int):=by omega
 have e2:(l:Int)≤(h:Int):=by omega
 have e3:(0:Int)≤(h:Int):=by omega
 have e4:(h:Int)≤(cap:Int):=by omega
 rcases hh with ⟨rfl,rfl⟩ | ⟨k2,rfl⟩ <;> rcases hl with ⟨rfl,rfl⟩ | ⟨k,rfl⟩ <;>
  simp [Instr.sliceBounds,Instr.sliceBound,asIntOf,h1,show h≤cap from by omega]
theorem aslice_run (hT:Kb P T) {t:Nat} {x z:AV} {lo hi:Option AV} {u:Value} {lo' hi':Option Value} (hx:VR g x u)
  (h1:∀ a,lo = some a→∃ v,lo' = some v∧VR g a v) (h2:lo = none→lo' = none) (h3:∀ a,hi = some a→∃ v,hi' = some v∧VR g a v) (h4:hi = none→hi' = none)
  (h:Zea T t x lo hi = some z):∃ r,(Instr.sliceAt t u lo' hi' none).run P w = .ok r w∧VR g z r:=by
 unfold Zea at h
 split at h <;> try cases h
 rename_i ti hti
 obtain ⟨ii,d,z0,ht⟩:=hT.get hti
 split at h <;> try cases h
 ·rename_i e sz rows hk
  split at h <;> try cases h
  rename_i ei l hh hei hl hh'
  split at h <;> cases h
  rename_i hc
  obtain ⟨hc1,hc2,hc3⟩:=hc
  obtain ⟨i2,d2,z2,ht2⟩:=hT.get hei
  have hd:=ht.sl hk
  have hu:=ht.und; rw [hd] at hu
  have b1:=Zma (y:=0) h1 h2 hl
  have b2:=Zma (y:=0) h3 h4 hh'
  simp only [VR] at hx
  obtain ⟨A,cap,rfl,hcap,hx⟩:=hx
  refine ⟨.slice (if cap = l then A else A.map (·.add (l * sz))) (hh - l) (cap - l),?_,?_⟩
  ·simp [Instr.sliceAt,run_underlying hu,Instr.slice,Jba b1 b2 hc2 hc3 hcap,ht2.run_size,hc1]
  ·simp only [VR]
   have hlen:((rows.take hh).drop l).length = hh - l:=by rw [List.length_drop,List.length_take]; omega
   rw [hlen]
   refine ⟨_,cap - l,rfl,by omega,?_⟩
   by_cases h0:l = hh
   ·left; simp [h0,List.drop_eq_nil_iff]
   ·right
    rcases hx with rfl | ⟨a,c,e',fr,rfl,hs,hfz,hrows⟩
    ·simp at hc3; omega
    ·refine ⟨⟨a.block,a.off+l * sz,none⟩,c,e',fr,?_,rfl,hfz,?_⟩
     ·rw [if_neg (by omega)]; simp [K1 a hs]
     ·exact (hrows.take hh).drop l
 ·rename_i e b sz off len hk
  split at h <;> try cases h
  rename_i ei l hh hei hl hh'
  split at h <;> cases h
  rename_i hc
  obtain ⟨hc1,hc2,hc3⟩:=hc
  obtain ⟨i2,d2,z2,ht2⟩:=hT.get hei
  have hd:=ht.sl hk
  have hu:=ht.und; rw [hd] at hu
  have b1:=Zma (y:=0) h1 h2 hl
  have b2:=Zma (y:=0) h3 h4 hh'
  simp only [VR] at hx
  obtain ⟨a,cap,rfl,hcap,hs,hx⟩:=hx
  refine ⟨.slice (some (if cap = l then a else a.add (l * sz))) (hh - l) (cap - l),?_,?_⟩
  ·have:(if cap = l then some a else (some a).map (·.add (l * sz))) = some (if cap = l then a else a.add (l * sz)):=by split <;> rfl
   simp [Instr.sliceAt,run_underlying hu,Instr.slice,Jba b1 b2 hc2 hc3 hcap,ht2.run_size,hc1]
   split <;> rfl
  ·simp only [VR]
   refine ⟨_,cap - l,rfl,by omega,?_,?_⟩
   ·split
    ·exact hs
    ·rw [K1 a hs]
   ·by_cases h0:cap = l
    ·left; omega
    ·right
     rcases hx with h0' | ⟨rfl,e',m,hm,hle⟩
     ·omega
     ·rw [if_neg h0,K1 _ rfl]
      refine ⟨by simp [Nat.add_mul],e',m,hm,?_⟩
      rw [show off+l+(cap - l) = off+cap from by omega]; exact hle
 ·rename_i e hk
  have hd:=ht.sl hk
  have hu:=ht.und; rw [hd] at hu
  split at h <;> cases h
  rename_i ei hei hl hh'
  obtain ⟨i2,d2,z2,ht2⟩:=hT.get hei
  have b1:=Zma (y:=0) h1 h2 hl
  have b2:=Zma (y:=0) h3 h4 hh'
  simp only [VR] at hx
  subst hx
  refine ⟨.slice none 0 0,?_,by simp [VR,anil]⟩
  simp [Instr.sliceAt,run_underlying hu,Instr.slice,Jba (cap:=0) (len:=0) b1 b2 (Nat.le_refl _) (Nat.le_refl _) (Nat.le_refl _),ht2.run_size]
 ·rename_i s hk
  have hd:=ht.str hk
  have hu:=ht.und; rw [hd] at hu
  split at h <;> try cases h
  rename_i l hh hl hh'
  split at h <;> cases h
  rename_i hc
  have b1:=Zma (y:=0) h1 h2 hl
  have b2:=Zma (y:=0) h3 h4 hh'
  simp only [VR] at hx
  subst hx
  refine ⟨.string (s.extract l hh),?_,by simp [VR,astr]⟩
  simp [Instr.sliceAt,run_underlying hu,Instr.slice,Jba b1 b2 hc.1 hc.2 (Nat.le_refl _)]
theorem aconv_run (hT:Kb P T) {s d:Nat} {x z:AV} {u:Value} (hx:VR g x u) (h:aconv T s d x = some z):∃ r,(convert s d u).run P w = .ok r w∧VR g z r:=by
 unfold aconv at h
 split at h <;> try cases h
 rename_i si di hsi hdi
 obtain ⟨i1,d1,z1,ht1⟩:=hT.get hsi
 obtain ⟨i2,d2,z2,ht2⟩:=hT.get hdi
 split at h <;> cases h
 ·rename_i hk1 hk2
  have e1:=ht1.int hk1; have e2:=ht2.int hk2
  subst e1; subst e2
  simp only [VR] at hx; subst hx
  exact ⟨_,by simp [convert,ht1.run_und,ht2.run_und,Conv.intToInt]; rfl,by simp [VR]⟩
 ·rename_i hk1 hk2
  have e1:=ht1.str hk1; have e2:=ht2.str hk2
  subst e1; subst e2
  simp only [VR] at hx; subst hx
  exact ⟨_,by simp [convert,ht1.run_und,ht2.run_und]; rfl,by simp [VR]⟩
theorem alen_run (hT:Kb P T) {t:Nat} {tys:Array TypeId} {ty:TypeId} {args:Array Value} {x z:AV} {u:Value} (h0:tys[0]? = some t) (h1:args[0]? = some u) (hx:VR g x u) (h:alen T t x = some z) :
  ∃ r,(Builtin.len_ tys ty args).run P w = .ok r w∧VR g z r:=by
 unfold alen at h
 split at h <;> try cases h
 rename_i ti hti
 obtain ⟨ii,d,z0,ht⟩:=hT.get hti
 split at h <;> cases h
 ·rename_i hk
  have e:=ht.sl hk; subst e
  simp only [VR] at hx
  obtain ⟨A,cap,rfl,_⟩:=hx
  exact ⟨_,by simp [Builtin.len_,h0,h1,ht.run_und]; rfl,by simp [VR,aint,goInt]⟩
 ·rename_i hk
  have e:=ht.sl hk; subst e
  simp only [VR] at hx
  obtain ⟨A,cap,rfl,_⟩:=hx
  exact ⟨_,by simp [Builtin.len_,h0,h1,ht.run_und]; rfl,by simp [VR,aint,goInt]⟩
 ·rename_i hk
  have e:=ht.sl hk; subst e
  simp only [VR] at hx; subst hx
  exact ⟨_,by simp [Builtin.len_,h0,h1,ht.run_und]; rfl,by simp [VR,aint,goInt]⟩
 ·rename_i hk
  have e:=ht.str hk; subst e
  simp only [VR] at hx; subst hx
  exact ⟨_,by simp [Builtin.len_,h0,h1,ht.run_und]; rfl,by simp [VR,aint,goInt]⟩
 ·rename_i n hk
  have e:=ht.arr hk; subst e
  exact ⟨_,by simp [Builtin.len_,h0,h1,ht.run_und]; rfl,by simp [VR,aint,goInt]⟩
end
end Go.Proofs.YtpkhmfedaaoalaaGreatDoor.AM
namespace Go.Proofs.YtpkhmfedaaoalaaGreatDoor.AM
open Go
theorem foldl_put (off:Nat):∀ (l:List Value) (n:Nat) (cs:Array Value) (k:Nat),
  ((l.zipIdx n).foldl (fun (cs:Array Value) (x:Value×Nat)=>cs.setIfInBounds (off+x.2) x.1) cs)[k]? =
   if off+n≤k∧k < off+n+l.length then (if k < cs.size then l[k - (off+n)]? else none) else cs[k]?
 | [],n,cs,k=>by simp; intro a b; omega
 | v :: l,n,cs,k=>by
  rw [List.zipIdx_cons,List.foldl_cons,foldl_put off l (n+1)]
  simp only [Array.size_setIfInBounds,List.length_cons,Array.getElem?_setIfInBounds]
  by_cases h1:k = off+n
  ·subst h1
   rw [if_neg (by omega),if_pos rfl]
   simp
  ·by_cases h2:off+n≤k∧k < off+n+(l.length+1)
   ·rw [if_pos (by omega),if_pos h2]
    congr 1
    rw [show k - (off+n) = (k - (off+(n+1)))+1 from by omega,List.getElem?_cons_succ]
   ·rw [if_neg (by omega),if_neg h2,if_neg (by omega)]
theorem J1a (off:Nat):∀ (l:List (Value×Nat)) (cs:Array Value),(l.foldl (fun (cs:Array Value) (x:Value×Nat)=>cs.setIfInBounds (off+x.2) x.1) cs).size = cs.size
 | [],cs=>rfl
 | v :: l,cs=>by rw [List.foldl_cons,J1a off l]; simp
def laid (cs:Array Value) (off:Nat) (v:Array Value):Array Value:=v.zipIdx.foldl (fun cs (x:Value×Nat)=>cs.setIfInBounds (off+x.2) x.1) cs
theorem laid_size (cs:Array Value) (off:Nat) (v:Array Value):(laid cs off v).size = cs.size:=by
 unfold laid; rw [← Array.foldl_toList]; exact J1a off _ cs
theorem laid_get (cs:Array Value) (off:Nat) (v:Array Value) (h:off+v.size≤cs.size) (k:Nat) :
  (laid cs off v)[k]? = if off≤k∧k < off+v.size then v[k - off]? else cs[k]?:=by
 unfold laid
 rw [← Array.foldl_toList,Array.toList_zipIdx,foldl_put off v.toList 0 cs k]
 simp only [Nat.add_zero,Array.length_toList,Array.getElem?_toList]
 split
 ·rename_i hk
  rw [if_pos (by omega)]
 ·rfl
section
variable {P:Program} {T:Tab} {g:Gh} {w:World}
def PRs (g:Gh):List (Nat×AV)→List (Nat×Value)→Prop
 | [],[]=>True
 | x :: xs,v :: vs=>x.1 = v.1∧VR g x.2 v.2∧PRs g xs vs
 | _,_=>False
theorem Zp.laid {c:Array Value} {cs:List AV} (hc:Zp g c 0 cs) (hl:c.size = cs.length) {v:Array Value} {xs:List AV} (hv:Zp g v 0 xs) (hvl:v.size = xs.length) {off:Nat}
  (hle:off+xs.length≤cs.length):Zp g (laid c off v) 0 (cs.take off++xs++cs.drop (off+xs.length)):=
 Zp.of_get fun k x hx=>by
  rw [Nat.zero_add,laid_get c off v (by omega)]
  rw [List.append_assoc,List.getElem?_append,List.length_take] at hx
  split at hx
  ·rw [if_neg (by omega)]
   rw [List.getElem?_take] at hx
   split at hx
   ·simpa using hc.get hx
   ·cases hx
  ·rw [List.getElem?_append] at hx
   split at hx
   ·rw [if_pos (by omega)]
    have:=hv.get hx
    rwa [Nat.zero_add,show k - min off cs.length = k - off from by omega] at this
   ·rw [List.getElem?_drop] at hx
    rw [if_neg (by omega)]
    have:=hc.get hx
    rwa [Nat.zero_add,show off+xs.length+(k - min off cs.length - xs.length) = k from by omega] at this
theorem fill_run {pl:Nat→Option (Nat×Nat)} {place:Nat→Option (Nat×Nat)} (hp:∀ i p,pl i = some p→place i = some p) :
  ∀ {parts:List (Nat×AV)} {vs:List (Nat×Value)} {c:Array Value} {cs cs':List AV},Zp g c 0 cs→c.size = cs.length→PRs g parts vs→Z8b pl cs parts = some cs' →
   ∃ c',Instr.fill place c vs = some c'∧Zp g c' 0 cs'∧c'.size = cs'.length
 | [],[],c,cs,cs',hc,hl,_,h=>by simp only [Z8b] at h; cases h; exact ⟨c,rfl,hc,hl⟩
 | (i,x) :: parts,(i',v) :: vs,c,cs,cs',hc,hl,hpr,h=>by
  simp only [PRs] at hpr
  obtain ⟨rfl,hx,hpr⟩:=hpr
  simp only [Z8b] at h
  split at h <;> try cases h
  rename_i off size hi
  split at h <;> try cases h
  rename_i hcond
  obtain ⟨h1,h2,h3⟩:=hcond
  obtain ⟨hv1,hv2⟩:=hx.okCells h1
  have hsz:v.cells.size = size:=by omega
  have hlaid:=Zp.laid hc hl hv1 hv2 (off:=off) (by omega)
  rw [h2] at hlaid
  obtain ⟨c',e1,e2,e3⟩:=fill_run hp (c:=laid c off v.cells) hlaid (by rw [laid_size]; simp; omega) hpr h
  refine ⟨c',?_,e2,e3⟩
  simp only [Instr.fill,hp i _ hi]
  have n1:(v.cells.size≠size) = False:=by simp [hsz]
  have n2:(off+v.cells.size > c.size) = False:=by simp; omega
  simp only [n1,n2,decide_false,Bool.or_self,Bool.false_eq_true,if_false]
  exact e1
 | [],_ :: _,_,_,_,_,_,h,_=>by simp [PRs] at h
 | _ :: _,[],_,_,_,_,_,h,_=>by simp [PRs] at h
theorem zero_cells {ti:TI} {t:Nat} {i:TypeInfo} {d:TypeDesc} {z:Value} (ht:TIs P t ti i d z):Zp g z.cells 0 (ti.zero.map .val)∧z.cells.size = (ti.zero.map AV.val).length:=by
 constructor
 ·have:=VR.vals g z.cells (by rw [Array.all_eq_true_iff_forall_mem]; intro v hv; exact ht.zone v (by rw [← ht.zcells]; simpa using hv))
  rwa [ht.zcells] at this
 ·rw [List.length_map,← ht.zcells,Array.length_toList]
theorem abuild_run (hT:Kb P T) {t:Nat} {parts:List (Nat×AV)} {vs:Array (Nat×Value)} {z:AV} (hp:PRs g parts vs.toList) (h:abuild T t parts = some z) :
  ∃ r,(Instr.build t vs).run P w = .ok r w∧VR g z r:=by
 unfold abuild at h
 split at h <;> try cases h
 rename_i ti hti
 obtain ⟨i,d,z0,ht⟩:=hT.get hti
 split at h <;> try cases h
 rename_i hpl
 split at h <;> cases h
 rename_i cs hcs
 obtain ⟨hz1,hz2⟩:=zero_cells (g:=g) ht
 cases hk:ti.kind <;> rw [hk] at hpl hcs <;> simp only [Kda,Bool.false_eq_true] at hpl
 case arr n e=>
  have hd:=ht.arr hk; subst hd
  cases he:T e with
  | none=>rw [he] at hpl; simp at hpl
  | some ei=>
   obtain ⟨ie,de,ze,hte⟩:=hT.get he
   obtain ⟨c',e1,e2,e3⟩:=fill_run (g:=g) (place:=fun i=>some (i * ie.size,ie.size)) (fun j p hj=>by
    simp only [Xpb,he,Option.some.injEq] at hj
    subst hj
    simp [hte.size]) hz1 hz2 hp hcs
   refine ⟨.agg c',?_,by simp only [VR]; exact ⟨c',rfl,e2,e3⟩⟩
   refine run_build w t vs c' ?_
   simp [Program.built,ht.info,ht.und,ht.zero,hte.info,e1]
 case struct fs=>
  obtain ⟨fields,rfl,hfs⟩:=ht.struct hk
  have hall:∀ f∈fields.toList,∃ fi,T f.type = some fi:=by
   intro f hf
   rw [List.all_eq_true] at hpl
   have:=hpl (f.offset,f.type) (by rw [← hfs]; exact List.mem_map.2 ⟨f,hf,rfl⟩)
   exact Option.isSome_iff_exists.1 this
  have hplaces:∀ l:List Field,(∀ f∈l,∃ fi,T f.type = some fi) →
    ∃ places,l.mapM (fun f=>(P.info? f.type).map fun i=>(f.offset,i.size)) = some places∧∀ (j:Nat) (f:Field) (fi:TI),l[j]? = some f→T f.type = some fi→places[j]? = some (f.offset,fi.size):=by
   intro l
   induction l with
   | nil=>exact fun _=>⟨[],rfl,by simp⟩
   | cons f l ih=>
    intro hl
    obtain ⟨places,h1,h2⟩:=ih fun f hf=>hl f (by simp [hf])
    obtain ⟨fi,hfi⟩:=hl f (by simp)
    obtain ⟨i2,d2,z2,ht2⟩:=hT.get hfi
    refine ⟨(f.offset,i2.size) :: places,by simp [List.mapM_cons,ht2.info,h1],?_⟩
    intro j f' fi' hj hf'
    cases j with
    | zero=>simp at hj; subst hj; rw [hfi] at hf'; cases hf'; simp [ht2.size]
    | succ j=>simpa using h2 j f' fi' (by simpa using hj) hf'
  obtain ⟨places,hp1,hp2⟩:=hplaces _ hall
  obtain ⟨c',e1,e2,e3⟩:=fill_run (g:=g) (place:=(places.toArray[·]?)) (fun j p hj=>by
   simp only [Xpb,← hfs,List.getElem?_map] at hj
   cases hf:fields.toList[j]? with
   | none=>simp [hf] at hj
   | some f=>
    simp only [hf,Option.map_some] at hj
    obtain ⟨fi,hfi⟩:=hall f (List.mem_of_getElem? hf)
    simp only [hfi,Option.some.injEq] at hj
    subst hj
    simpa using hp2 j f fi hf hfi) hz1 hz2 hp hcs
  refine ⟨.agg c',?_,by simp only [VR]; exact ⟨c',rfl,e2,e3⟩⟩
  refine run_build w t vs c' ?_
  simp only [Program.built,ht.info,ht.und,ht.zero,hp1]
  exact e1
theorem aloadI_run (hT:Kb P T) {h0:Hp} (hh:HR g h0 w) {t:Nat} {x z:AV} {u:Value} (hx:VR g x u) (h:aloadI T t x = some z) :
  ∃ r,(Instr.loadAt t u).run P w = .ok r w∧VR g z r:=by
 unfold aloadI at h
 split at h <;> try cases h
 rename_i ti r c hti
 obtain ⟨i,d,z0,ht⟩:=hT.get hti
 simp only [VR] at hx
 obtain ⟨a,cc,e,fr,rfl,hs,hle,hfz,hr⟩:=hx
 obtain ⟨r',hr',hv⟩:=load_run (w:=w) hT ht hr h hs (by omega) (hh.fz _ _ hfz)
 exact ⟨r',by simp [Instr.loadAt,Instr.sureAddr,hr'],hv⟩
theorem PRs.of {ρ:Operand→AV} {a:Act} (h:∀ x,VR g (ρ x) (a.eval x)):∀ (ps:List (Nat×Operand)),PRs g (ps.map fun p=>(p.1,ρ p.2)) (ps.map fun p=>(p.1,a.eval p.2))
 | []=>trivial
 | p :: ps=>⟨rfl,h p.2,PRs.of h ps⟩
theorem VRs.of {ρ:Operand→AV} {a:Act} (h:∀ x,VR g (ρ x) (a.eval x)):∀ (xs:List Operand),VRs g (xs.map ρ) (xs.map a.eval)
 | []=>trivial
 | x :: xs=>⟨h x,VRs.of h xs⟩
theorem zeroV_ok {t:Nat} {ti:TI} {i:TypeInfo} {d:TypeDesc} {z:Value} (ht:TIs P t ti i d z):Xza ti = z:=by
 unfold Xza
 rw [← ht.zagg,← ht.zcells]
 cases z <;> simp [isAggV,Value.cells]
theorem eqIn_ifc_nn (n:Nat) {t:Nat} {ms:Array (String×TypeId)} (h:P.underlying t = some (.interface ms)):(Op.equalIn (n+1) t .nilIface .nilIface).run P w = .ok true w:=by
 simp [Op.equalIn,run_underlying h]
theorem eqIn_ifc_n (n:Nat) {t:Nat} {ms:Array (String×TypeId)} (h:P.underlying t = some (.interface ms)) (s:TypeId) (v:Value):(Op.equalIn (n+1) t (.iface s v) .nilIface).run P w = .ok false w:=by
 simp [Op.equalIn,run_underlying h]
theorem aifc_run {op:BinOp} {t:Nat} {ti:TI} {i:TypeInfo} {d:TypeDesc} {z0:Value} (ht:TIs P t ti i d z0) (hk:ti.kind = .iface) {x z:AV} {ox y:Operand} {u:Value} (hx:VR g x u) {a:Act} (h:aifc op x y = some z) :
  ∃ r,(do eqGuard op t ox y u (a.eval y); binOp op t u (a.eval y):Sem Value).run P w = .ok r w∧VR g z r:=by
 obtain ⟨ms,hd⟩:∃ ms,d = .interface ms:=by
  have:=ht.kind; rw [hk] at this; cases d <;> simp [Kw] at this; exact ⟨_,rfl⟩
 have hu:=ht.und; rw [hd] at hu
 have e1:=eqIn_ifc_nn (P:=P) (w:=w) 9999 hu
 have e2:=eqIn_ifc_n (P:=P) (w:=w) 9999 hu
 have r1:=Zna (P:=P) (w:=w) (t:=t) (u:=.nilIface) (v:=.nilIface) ox (.const .nilIface) (by simp) (by simp) (by intro op; cases op <;> simp [eqGuard]) (by simp [binOp]) e1
 have r2:=fun s v=>Zna (P:=P) (w:=w) (t:=t) (u:=.iface s v) (v:=.nilIface) ox (.const .nilIface) (by simp) (by simp) (by intro op; cases op <;> simp [eqGuard]) (by simp [binOp]) (e2 s v)
 unfold aifc at h
 split at h <;> cases h
 ·simp only [VR] at hx; subst hx
  exact ⟨_,r1.1,by simp [VR,Zk]⟩
 ·simp only [VR] at hx; subst hx
  exact ⟨_,r1.2,by simp [VR,Zk]⟩
 ·simp only [VR] at hx; obtain ⟨v,rfl,_⟩:=hx
  exact ⟨_,(r2 _ v).1,by simp [VR,Zk]⟩
 ·simp only [VR] at hx; obtain ⟨v,rfl,_⟩:=hx
  exact ⟨_,(r2 _ v).2,by simp [VR,Zk]⟩
theorem atas_run {t xt:Nat} {ti:TI} {i:TypeInfo} {d:TypeDesc} {z0:Value} (ht:TIs P t ti i d z0) {x z:AV} {u:Value} (hx:VR g x u) (h:atas ti t x = some z) :
  ∃ r,(Instr.typeAssert u xt t true).run P w = .ok r w∧VR g z r:=by
 have hz:(zeroValue t).run P w = .ok (Xza ti) w:=by rw [zeroV_ok ht]; exact ht.run_zero w
 have hni:ti.kind≠.iface:=by intro e; unfold atas at h; rw [e] at h; cases h
 have hd:∀ ms,d≠.interface ms:=by
  intro ms e
  have:=ht.kind; rw [e] at this; exact hni this.symm
 have h1:(∀ u v,x = .ifc u v→(if u = t then AV.tup [v,Zk true] else .tup [Y3 (Xza ti),Zk false]) = z)∧(x = .val .nilIface→AV.tup [Y3 (Xza ti),Zk false] = z)∧((∃ u v,x = .ifc u v)∨x = .val .nilIface):=by
  unfold atas at h
  generalize hkk:ti.kind = kk at h hni
  split at h
  ·exact absurd rfl hni
  ·cases h; exact ⟨fun u v e=>by cases e; rfl,fun e=>(by cases e),.inl ⟨_,_,rfl⟩⟩
  ·cases h; exact ⟨fun u v e=>(by cases e),fun _=>rfl,.inr rfl⟩
  ·cases h
 clear h
 have zz:VR g (.tup [Y3 (Xza ti),Zk false]) (.tuple #[Xza ti,.bool false]):=by
  simp only [VR]; exact ⟨_,rfl,Wf g _,by simp [VR,Zk],trivial⟩
 obtain ⟨h1,h2,⟨s,v,rfl⟩ | rfl⟩:=h1
 ·have h1:=h1 s v rfl
  simp only [VR] at hx
  obtain ⟨y,rfl,hy⟩:=hx
  by_cases e:s = t
  ·subst e
   rw [if_pos rfl] at h1; subst h1
   refine ⟨.tuple #[y,.bool true],?_,by simp only [VR]; exact ⟨_,rfl,hy,by simp [VR,Zk],trivial⟩⟩
   unfold Instr.typeAssert
   rw [Sem.run_bind,ht.run_und]
   cases d <;> first | (exact absurd rfl (hd _)) | simp
  ·rw [if_neg e] at h1; subst h1
   refine ⟨.tuple #[Xza ti,.bool false],?_,zz⟩
   unfold Instr.typeAssert
   rw [Sem.run_bind,ht.run_und]
   cases d <;> first | (exact absurd rfl (hd _)) | simp [e,hz]
 ·have h2:=h2 rfl
  subst h2
  simp only [VR] at hx; subst hx
  refine ⟨.tuple #[Xza ti,.bool false],?_,zz⟩
  unfold Instr.typeAssert
  rw [Sem.run_bind,ht.run_und]
  cases d <;> first | (exact absurd rfl (hd _)) | simp [hz]
theorem acalm_run (hT:Kb P T) {h0:Hp} (hh:HR g h0 w) {ρ:Operand→AV} {a:Act} (ht:∀ x,VR g (ρ x) (a.eval x)) {o:Oper} {z:AV} (h:Wz T o.op ρ = some z) :
  ∃ r,(execOp a.eval o).run P w = .ok (.value r) w∧VR g z r:=by
 have lift:∀ {s:Sem Value} {r:Value},s.run P w = .ok r w→(do pure (Next.value (← s)):Sem Next).run P w = .ok (.value r) w:=by
  intro s r hs; simp [hs]
 unfold Wz at h
 split at h
 ·rename_i x ho; cases h
  exact ⟨_,by simp [execOp,ho],ht x⟩
 ·rename_i x ho; cases h
  exact ⟨_,by simp [execOp,ho],ht x⟩
 ·rename_i c x y ho
  split at h <;> cases h
  rename_i b hb
  have:=ht c
  rw [hb] at this
  simp only [VR] at this
  refine ⟨if b then a.eval x else a.eval y,by simp [execOp,ho,this,asBool],?_⟩
  split
  ·exact ht x
  ·exact ht y
 ·rename_i op t x y yt ho
  split at h <;> try cases h
  rename_i ti hti
  obtain ⟨i,d,z0,hti'⟩:=hT.get hti
  split at h
  ·rename_i z1 hz1
   split at h <;> cases h
   rename_i hk
   obtain ⟨r,hr,hv⟩:=aifc_run (w:=w) (ox:=x) (y:=y) (a:=a) hti' hk (ht x) hz1
   exact ⟨r,by simp only [execOp,ho]; exact lift hr,hv⟩
  ·obtain ⟨r,hr,hv⟩:=abin2_run (w:=w) (ox:=x) (oy:=y) hti' (ht x) (ht y) h
   exact ⟨r,by simp only [execOp,ho]; exact lift hr,hv⟩
 ·rename_i op t x ho
  obtain ⟨r,hr,hv⟩:=aun_run (P:=P) (w:=w) (ht x) h
  exact ⟨r,by simp only [execOp,ho]; exact lift hr,hv⟩
 ·rename_i t x f ho
  obtain ⟨r,hr,hv⟩:=afieldAddr_run (w:=w) hT (ht x) h
  exact ⟨r,by simp only [execOp,ho]; exact lift hr,hv⟩
 ·rename_i t x f ho
  obtain ⟨r,hr,hv⟩:=afieldOf_run (w:=w) hT (ht x) h
  exact ⟨r,by simp only [execOp,ho]; exact lift hr,hv⟩
 ·rename_i t x y ho
  obtain ⟨r,hr,hv⟩:=aindexAddr_run (w:=w) hT (ht x) (ht y) h
  exact ⟨r,by simp only [execOp,ho]; exact lift hr,hv⟩
 ·rename_i t x y ho
  obtain ⟨r,hr,hv⟩:=aindex_run (w:=w) hT (ht x) (ht y) h
  exact ⟨r,by simp only [execOp,ho]; exact lift hr,hv⟩
 ·rename_i t x lo hi ho
  have hm:∀ (y:Option Operand),(∀ q,y.map ρ = some q→∃ v,y.map a.eval = some v∧VR g q v)∧(y.map ρ = none→y.map a.eval = none):=by
   intro y
   cases y with
   | none=>simp
   | some y=>simp; exact ht y
  obtain ⟨r,hr,hv⟩:=aslice_run (w:=w) hT (ht x) (hm lo).1 (hm lo).2 (hm hi).1 (hm hi).2 h
  exact ⟨r,by simp only [execOp,ho]; exact lift hr,hv⟩
 ·rename_i s d x ho
  obtain ⟨r,hr,hv⟩:=aconv_run (w:=w) hT (ht x) h
  exact ⟨r,by simp only [execOp,ho]; exact lift hr,hv⟩
 ·rename_i x i ho
  split at h <;> try cases h
  rename_i vs hvs
  have:=ht x
  rw [hvs] at this
  simp only [VR] at this
  obtain ⟨us,hus,hr⟩:=this
  obtain ⟨r,hr1,hr2⟩:=hr.get h
  have hr1':us[i]? = some r:=by simpa using hr1
  exact ⟨r,by simp only [execOp,ho]; exact lift (by simp [Instr.extract,hus,hr1']),hr2⟩
 ·rename_i f first caps ho; cases h
  refine ⟨.func f (first.map a.eval) (caps.map a.eval),by simp only [execOp,ho]; exact lift (by simp [Instr.makeFunc]),?_⟩
  simp only [VR]
  exact ⟨_,_,rfl,by rw [Array.toList_map]; exact VRs.of ht _,by rw [Array.toList_map]; exact VRs.of ht _⟩
 ·rename_i t parts ho
  obtain ⟨r,hr,hv⟩:=abuild_run (w:=w) hT (vs:=parts.map fun (i,x)=>(i,a.eval x)) (by rw [Array.toList_map]; exact PRs.of ht _) h
  exact ⟨r,by simp only [execOp,ho]; exact lift hr,hv⟩
 ·rename_i t x ho
  obtain ⟨r,hr,hv⟩:=aloadI_run hT hh (ht x) h
  exact ⟨r,by simp only [execOp,ho]; exact lift hr,hv⟩
 ·rename_i x ho
  have hx:=ht x
  split at h <;> cases h
  ·rename_i hq
   rw [hq] at hx
   have hx':=hx
   simp only [VR] at hx
   obtain ⟨p,_,_,_,hp,_⟩:=hx
   rw [hp] at hx'
   exact ⟨_,by simp [execOp,ho,hp],hx'⟩
  ·rename_i hq
   rw [hq] at hx
   have hx':=hx
   simp only [VR] at hx
   rw [hx] at hx'
   exact ⟨_,by simp [execOp,ho,hx],hx'⟩
  ·rename_i hq
   rw [hq] at hx
   have hx':=hx
   simp only [VR] at hx
   rw [hx] at hx'
   exact ⟨_,by simp [execOp,ho,hx],hx'⟩
 ·rename_i t x ho
  split at h <;> try cases h
  rename_i ti hti
  obtain ⟨i,d,z0,hti'⟩:=hT.get hti
  split at h <;> cases h
  rename_i hni
  refine ⟨.iface t (a.eval x),?_,by simp only [VR]; exact ⟨_,rfl,ht x⟩⟩
  have hd:∀ ms,d≠.interface ms:=by
   intro ms e
   have:=hti'.kind; rw [e] at this; exact hni this.symm
  simp only [execOp,ho]
  refine lift ?_
  unfold Instr.makeInterface
  rw [Sem.run_bind,hti'.run_und]
  cases d <;> first | rfl | exact absurd rfl (hd _)
 ·rename_i args tys ho
  split at h <;> try cases h
  rename_i x t hx hty
  have hx':(args.map a.eval)[0]? = some (a.eval x):=by rw [Array.getElem?_map,hx]; rfl
  obtain ⟨r,hr,hv⟩:=alen_run (w:=w) (ty:=o.type) hT hty hx' (ht x) h
  exact ⟨r,by simp [execOp,ho,resolve,invoke,builtin,hr],hv⟩
 ·rename_i args tys ho
  split at h <;> try cases h
  rename_i x y hxy
  have ea:args.map a.eval = #[a.eval x,a.eval y]:=by
   apply Array.ext'; rw [Array.toList_map,hxy]; rfl
  have h1:=ht x; have h2:=ht y
  unfold amax at h
  split at h <;> try cases h
  rename_i k m k' n e1 e2
  split at h <;> cases h
  rename_i hk; subst hk
  rw [e1] at h1; rw [e2] at h2
  simp only [VR] at h1 h2
  refine ⟨.int k (if n > m then n else m),?_,by simp [VR]⟩
  simp [execOp,ho,resolve,invoke,builtin,ea,h1,h2,Builtin.max_,Builtin.max2]
 ·rename_i args tys ho
  split at h <;> try cases h
  rename_i x y hxy
  have ea:args.map a.eval = #[a.eval x,a.eval y]:=by
   apply Array.ext'; rw [Array.toList_map,hxy]; rfl
  have h1:=ht x; have h2:=ht y
  unfold amin at h
  split at h <;> try cases h
  rename_i k m k' n e1 e2
  split at h <;> cases h
  rename_i hk; subst hk
  rw [e1] at h1; rw [e2] at h2
  simp only [VR] at h1 h2
  refine ⟨.int k (if n < m then n else m),?_,by simp [VR]⟩
  simp [execOp,ho,resolve,invoke,builtin,ea,h1,h2,Builtin.min_,Builtin.min2]
 ·rename_i x xt t ho
  split at h <;> try cases h
  rename_i ti hti
  obtain ⟨i,d,z0,hti'⟩:=hT.get hti
  obtain ⟨r,hr,hv⟩:=atas_run (w:=w) (xt:=xt) hti' (ht x) h
  exact ⟨r,by simp only [execOp,ho]; exact lift hr,hv⟩
 ·cases h
end
end Go.Proofs.YtpkhmfedaaoalaaGreatDoor.AM
