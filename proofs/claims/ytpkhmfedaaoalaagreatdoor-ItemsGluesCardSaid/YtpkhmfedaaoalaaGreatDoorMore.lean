/- ItemsGlues: a part of its proof (packed by a program). -/
import Derived.Test.YtpkhmfedaaoalaaGreatDoorAm8
import Derived.Scope
import Derived.Sort.LoopGhostIn
import Derived.Laws.Strings
set_option linter.all false
namespace Go.Proofs.YtpkhmfedaaoalaaGreatDoor.AM
open Go
inductive AC where
 | skip
 | reg (os:List AO)
 | draw (os:List AO) (p:Plan)
 | seq (a b:AC)
 | cond (c:Operand) (a b:AC)
 | block (id:Nat) (b:AC)
 | loop (b:AC)
 | exit (id:Nat)
 | ret
 | ghost
 | scope (b:AC)
 | range (f:Operand) (ps:List Nat) (as_ bd:AC)
def Kp:Code→Bool
 | .seq a b=>Kp a && Kp b
 | .cond _ a b=>Kp a && Kp b
 | .block _ b | .loop b=>Kp b
 | .rangeFunc .. | .scope _ | .goto _ | .refuse _=>false
 | _=>true
def dfltO:AO:=⟨none,.ready 0,none,false⟩
structure Ann where
 pure:List Nat:=[]
 plan:Plan:=.done
 ghost:Bool:=false
 post:Bool:=false
def slimP (an:Ann) (c:AC):AC:=if an.post then .seq c .ghost else c
def slimR (an:Ann) (c:AC):AC:=if an.ghost then .seq .ghost (slimP an c) else slimP an c
def slim (ann:Nat→Ann):Code→Option AC
 | .skip=>some .skip
 | .region id ops draw=>
  if draw then
   if Jwa ops (ann id).pure (Array.replicate ops.size false) (ann id).plan && decide ((ann id).plan.depth≤ops.size) then
    some (slimR (ann id) (.draw ((List.range ops.size).map (sl ops (ann id).pure)) (ann id).plan))
   else none
  else some (slimR (ann id) (.reg ((List.range ops.size).map (sl ops (ann id).pure))))
 | .seq a b=>match slim ann a,slim ann b with
  | some x,some y=>some (.seq x y)
  | _,_=>none
 | .cond c a b=>match slim ann a,slim ann b with
  | some x,some y=>some (.cond c x y)
  | _,_=>none
 | .block id b=>match slim ann b with
  | some x=>some (.block id x)
  | none=>none
 | .loop b=>match slim ann b with
  | some x=>some (.loop x)
  | none=>none
 | .exit id=>some (.exit id)
 | .ret=>some .ret
 | .label _=>some .skip
 | .scope b=>match slim ann b with
  | some x=>some (.scope x)
  | none=>none
 | .rangeFunc f ps x y=>
  if Kp x && Kp y then match slim ann x,slim ann y with
   | some a,some b=>some (.range f ps.toList a b)
   | _,_=>none
  else none
 | _=>none
inductive AX where
 | norm
 | exit (id:Nat)
 | ret
 | pan (x:AV)
def Xg (s s':St):Prop:=∀ D g a w,Rel D g s a w→∃ g',g.le g'∧Rel D g' s' a w
def Y3a (next:St→Prop) (Q:AX→St→Prop):AX→St→Prop
 | .norm,s=>next s
 | e,s=>Q e s
def W3a (id:Nat) (Q:AX→St→Prop):AX→St→Prop
 | .exit n,s=>if n = id then Q .norm s else Q (.exit n) s
 | e,s=>Q e s
def arnd (l:Nat) (o:LoopState→Option Code→Obj) (K:Option Code→Hp→Prop):AX→St→Prop
 | .norm,s=>s.h.r l = some (o .busy none)∧K none (s.h.updR l (o .ready none))
 | .ret,s=>s.h.r l = some (o .busy none)∧K (some .ret) (s.h.updR l (o .done (some .ret)))
 | .exit id,s=>s.h.r l = some (o .busy none)∧K (some (.exit id)) (s.h.updR l (o .done (some (.exit id))))
 | .pan _,_=>False
def apend (Q:AX→St→Prop) (s:St):Option Code→Prop
 | none=>Q .norm s
 | some .ret=>Q .ret s
 | some (.exit id)=>Q (.exit id) s
 | _=>False
def aready (l:Nat) (o:LoopState→Option Code→Obj) (bd:St→Prop) (s:St):Prop:=s.h.r l = some (o .ready none)∧bd ⟨s.tm,s.h.updR l (o .busy none)⟩
def awp (P:Program) (T:Tab):AC→(AX→St→Prop)→St→Prop
 | .skip,Q,s=>Q .norm s
 | .reg os,Q,s=>aOps P T (Q .norm) (fun tm x h=>Q (.pan x) ⟨tm,h⟩) os s
 | .draw os p,Q,s=>Ypa P T (fun i=>os.getD i dfltO) (Q .norm) (fun x h=>Q (.pan x) ⟨[],h⟩) p s
 | .seq a b,Q,s=>awp P T a (Y3a (awp P T b Q) Q) s
 | .cond c a b,Q,s=>match ev s.tm c with
  | .val (.bool t)=>if t = true then awp P T a Q s else awp P T b Q s
  | _=>False
 | .block id b,Q,s=>awp P T b (W3a id Q) s
 | .loop b,Q,s=>∃ I:Nat→St→Prop,(∃ n s0,Xg s s0∧I n s0)∧∀ n s',I n s'→awp P T b (Y3a (fun s''=>∃ m s0,m < n∧Xg s'' s0∧I m s0) Q) s'
 | .exit id,Q,s=>Q (.exit id) s
 | .ret,Q,s=>Q .ret s
 | .ghost,Q,s=>∃ s',Xg s s'∧Q .norm s'
 | .scope b,Q,s=>awp P T b Q s
 | .range f ps as_ bd,Q,s=>match ev s.tm f with
  | .fn (.func n) [] caps=>∀ (l:Nat) (gb:Gh) (o:LoopState→Option Code→Obj),(∀ st pe,Kf (o st pe) = true)→s.h.r l = none →
   (∀ (args:List AV) (h2:Hp) (K:Option Code→Hp→Prop),args.length = ps.length→h2.r l = some (o .ready none) →
    awp P T as_ (Y3a (aready l o (awp P T bd (arnd l o K))) (fun _ _=>False)) ⟨setAll s.tm ps args,h2⟩ →
    AYield P gb l args h2 fun x h'=>∃ pe:Option Code,x = Zk pe.isNone∧K pe h') →
   Zo P n (.yld l gb :: caps) (s.h.updR l (o .ready none)) fun e h'=>(∃ x,e = .ret x)∧∃ pe st,h'.r l = some (o st pe)∧st≠.busy∧apend Q ⟨s.tm,h'.delR l⟩ pe
  | _=>False
def SQ (D:Gh) (Q:AX→St→Prop) (e:Exit) (a:Act) (w:World):Prop:=
 ∃ g s ax,D.le g∧Q ax s∧match ax,e with
  | .norm,.normal=>Rel D g s a w
  | .exit n,.exit m=>n = m∧Rel D g s a w
  | .ret,.ret=>Rel D g s a w
  | .pan x,.panic chain=>(s.tm = []∨TR g s.tm a.tmps)∧HR g s.h w∧Wta D g a.defers∧∃ v,chain = [{ v,recovered:=false }]∧VR g x v
  | _,_=>False
section
variable {P:Program} {T:Tab} {D:Gh} {r:Option Nat}
theorem getD_sl (ops:Array Oper) (pu:List Nat) (i:Nat):((List.range ops.size).map (sl ops pu)).getD i dfltO = sl ops pu i:=by
 rw [List.getD,List.getElem?_map]
 by_cases h:i < ops.size
 ·rw [List.getElem?_range h]; rfl
 ·rw [List.getElem?_eq_none (by simpa using h)]
  simp [sl,Array.getElem?_eq_none (Nat.le_of_not_lt h),dfltO]
theorem Y2a (hT:Kb P T) (hmix:P.follows .mixedOrders = true) {ann:Nat→Ann}:∀ (c:Code) (ac:AC),slim ann c = some ac→∀ (r:Option Nat) (D:Gh),((r = none∧D.nm = false)∨Kp c = true)→∀ (Q:AX→St→Prop) (s:St),awp P T ac Q s →
  ∀ (g:Gh) (a:Act) (w:World),D.le g→Rel D g s a w→c.wpIn (Fr r) 0 P (SQ D Q) a w
 | .skip,ac,hs,r,D,hsi,Q,s,h,g,a,w,hg,hr=>by
  cases hs
  exact wpIn_skip ⟨g,s,.norm,hg,h,hr⟩
 | .region id ops draw,ac,hs,r,D,hsi,Q,s,h,g,a,w,hg,hr=>by
  have core:∀ (c':AC),(c' = .reg ((List.range ops.size).map (sl ops (ann id).pure))∧draw = false)∨(c' = .draw ((List.range ops.size).map (sl ops (ann id).pure)) (ann id).plan∧draw = true ∧
    Jwa ops (ann id).pure (Array.replicate ops.size false) (ann id).plan = true∧(ann id).plan.depth≤ops.size) →
    ∀ (Q:AX→St→Prop) (s:St),awp P T c' Q s→∀ g,D.le g→Rel D g s a w→(Code.region id ops draw).wpIn (Fr r) 0 P (SQ D Q) a w:=by
   intro c' hc' Q s h g hg hr
   have hn:∀ g s a w,D.le g→Rel D g s a w→Q .norm s→SQ D Q .normal a w:=fun g s a w hg hr hq=>⟨g,s,.norm,hg,hq,hr⟩
   have hX:∀ g x v h' a w,D.le g→VR g x v→HR g h' w→Wta D g a.defers→Q (.pan x) ⟨[],h'⟩→SQ D Q (.panic [{ v,recovered:=false }]) a w:=
    fun g x v h' a w hg hv hh hd hq=>⟨g,⟨[],h'⟩,.pan x,hg,hq,.inl rfl,hh,hd,v,rfl,hv⟩
   have hX':∀ g x v tm h' a w,D.le g→TR g tm a.tmps→VR g x v→HR g h' w→Wta D g a.defers→Q (.pan x) ⟨tm,h'⟩→SQ D Q (.panic [{ v,recovered:=false }]) a w:=
    fun g x v tm h' a w hg ht hv hh hd hq=>⟨g,⟨tm,h'⟩,.pan x,hg,hq,.inr ht,hh,hd,v,rfl,hv⟩
   rcases hc' with ⟨rfl,rfl⟩ | ⟨rfl,rfl,hp1,hp2⟩
   ·exact wpIn_region (aOps_run hT hn hX' _ (fun i hi=>List.mem_range.1 hi) s h g a w hg hr)
   ·simp only [awp] at h
    have e:(fun i=>((List.range ops.size).map (sl ops (ann id).pure)).getD i dfltO) = sl ops (ann id).pure:=funext (getD_sl ops _)
    rw [e] at h
    have hany:=aAny_le (plan_any _ _ _ hp1 h) hp2
    exact wpIn_region_any hmix (aAny_run hT hn hX _ _ s hany g a _ hg ⟨hr.tm,hr.hr.drew,hr.df⟩)
  have core1:∀ (c':AC),(c' = .reg ((List.range ops.size).map (sl ops (ann id).pure))∧draw = false)∨(c' = .draw ((List.range ops.size).map (sl ops (ann id).pure)) (ann id).plan∧draw = true ∧
    Jwa ops (ann id).pure (Array.replicate ops.size false) (ann id).plan = true∧(ann id).plan.depth≤ops.size) →
    ∀ (s:St),awp P T (slimP (ann id) c') Q s→∀ g,D.le g→Rel D g s a w→(Code.region id ops draw).wpIn (Fr r) 0 P (SQ D Q) a w:=by
   intro c' hc' s h g hg hr
   unfold slimP at h
   split at h
   ·simp only [awp] at h
    refine wpIn_mono (core c' hc' _ s h g hg hr) ?_
    rintro e a' w' ⟨g',s',ex,b1,b2,b3⟩
    cases ex with
    | norm=>
     cases e <;> try exact b3.elim
     obtain ⟨s2,h1,h2⟩:=b2
     obtain ⟨g2,a1,a2⟩:=h1 D g' a' w' b3
     exact ⟨g2,s2,.norm,b1.trans a1,h2,a2⟩
    | exit n=>cases e <;> first | exact b3.elim | exact ⟨g',s',.exit n,b1,b2,b3⟩
    | ret=>cases e <;> first | exact b3.elim | exact ⟨g',s',.ret,b1,b2,b3⟩
    | pan x=>cases e <;> first | exact b3.elim | exact ⟨g',s',.pan x,b1,b2,b3⟩
   ·exact core c' hc' Q s h g hg hr
  have core2:∀ (c':AC),(c' = .reg ((List.range ops.size).map (sl ops (ann id).pure))∧draw = false)∨(c' = .draw ((List.range ops.size).map (sl ops (ann id).pure)) (ann id).plan∧draw = true ∧
    Jwa ops (ann id).pure (Array.replicate ops.size false) (ann id).plan = true∧(ann id).plan.depth≤ops.size) →
    awp P T (slimR (ann id) c') Q s→(Code.region id ops draw).wpIn (Fr r) 0 P (SQ D Q) a w:=by
   intro c' hc' h
   unfold slimR at h
   split at h
   ·simp only [awp] at h
    obtain ⟨s',h1,h2⟩:=h
    obtain ⟨g',a1,a2⟩:=h1 D g a w hr
    exact core1 c' hc' s' h2 g' (hg.trans a1) a2
   ·exact core1 c' hc' s h g hg hr
  simp only [slim] at hs
  split at hs
  ·rename_i hd
   split at hs <;> cases hs
   rename_i hp
   simp only [Bool.and_eq_true,decide_eq_true_eq] at hp
   exact core2 _ (.inr ⟨rfl,hd,hp.1,hp.2⟩) h
  ·rename_i hd
   cases hs
   exact core2 _ (.inl ⟨rfl,by simpa using hd⟩) h
 | .seq x y,ac,hs,r,D,hsi,Q,s,h,g,a,w,hg,hr=>by
  simp only [slim] at hs
  split at hs <;> cases hs
  rename_i ax ay hx hy
  simp only [awp] at h
  refine wpIn_seq (wpIn_mono (Y2a hT hmix x ax hx r D (hsi.imp id fun e=>(by simp only [Kp,Bool.and_eq_true] at e; exact e.1)) _ s h g a w hg hr) ?_)
  rintro e a' w' ⟨g',s',ex,b1,b2,b3⟩
  cases ex with
  | norm=>
   cases e <;> try exact b3.elim
   exact Y2a hT hmix y ay hy r D (hsi.imp id fun e=>(by simp only [Kp,Bool.and_eq_true] at e; exact e.2)) Q s' b2 g' a' w' b1 b3
  | exit n=>cases e <;> first | exact b3.elim | exact ⟨g',s',.exit n,b1,b2,b3⟩
  | ret=>cases e <;> first | exact b3.elim | exact ⟨g',s',.ret,b1,b2,b3⟩
  | pan x=>cases e <;> first | exact b3.elim | exact ⟨g',s',.pan x,b1,b2,b3⟩
 | .cond c x y,ac,hs,r,D,hsi,Q,s,h,g,a,w,hg,hr=>by
  simp only [slim] at hs
  split at hs <;> cases hs
  rename_i ax ay hx hy
  simp only [awp] at h
  split at h <;> try exact h.elim
  rename_i t ht
  have hc:=hr.tm.ev c
  rw [ht] at hc
  simp only [VR] at hc
  split at h
  ·rename_i e; subst e
   exact wpIn_cond_true hc (Y2a hT hmix x ax hx r D (hsi.imp id fun e=>(by simp only [Kp,Bool.and_eq_true] at e; exact e.1)) Q s h g a w hg hr)
  ·rename_i e
   have:t = false:=by simpa using e
   subst this
   exact wpIn_cond_false hc (Y2a hT hmix y ay hy r D (hsi.imp id fun e=>(by simp only [Kp,Bool.and_eq_true] at e; exact e.2)) Q s h g a w hg hr)
 | .block id x,ac,hs,r,D,hsi,Q,s,h,g,a,w,hg,hr=>by
  simp only [slim] at hs
  split at hs <;> cases hs
  rename_i ax hx
  simp only [awp] at h
  refine wpIn_block (wpIn_mono (Y2a hT hmix x ax hx r D (hsi.imp (fun e=>e) fun e=>(by simpa only [Kp] using e)) _ s h g a w hg hr) ?_)
  rintro e a' w' ⟨g',s',ex,b1,b2,b3⟩
  cases ex with
  | norm=>cases e <;> first | exact b3.elim | exact ⟨g',s',.norm,b1,b2,b3⟩
  | exit n=>
   cases e <;> try exact b3.elim
   obtain ⟨rfl,b3⟩:=b3
   simp only [W3a] at b2
   simp only [Exit.inBlock]
   split at b2
   ·rename_i e1; rw [if_pos e1]; exact ⟨g',s',.norm,b1,b2,b3⟩
   ·rename_i e1; rw [if_neg e1]; exact ⟨g',s',.exit n,b1,b2,rfl,b3⟩
  | ret=>cases e <;> first | exact b3.elim | exact ⟨g',s',.ret,b1,b2,b3⟩
  | pan x=>cases e <;> first | exact b3.elim | exact ⟨g',s',.pan x,b1,b2,b3⟩
 | .loop x,ac,hs,r,D,hsi,Q,s,h,g,a,w,hg,hr=>by
  simp only [slim] at hs
  split at hs <;> cases hs
  rename_i ax hx
  simp only [awp] at h
  obtain ⟨I,⟨n0,s0,hre,h0⟩,hround⟩:=h
  obtain ⟨g1,d1,d2⟩:=hre D g a w hr
  refine wpIn_loop_ghost (fun n a w=>∃ g s,D.le g∧Rel D g s a w∧I n s) n0 ⟨g1,s0,hg.trans d1,d2,h0⟩ ?_
  rintro n a' w' ⟨g',s',b1,b2,b3⟩
  refine wpIn_mono (Y2a hT hmix x ax hx r D (hsi.imp (fun e=>e) fun e=>(by simpa only [Kp] using e)) _ s' (hround n s' b3) g' a' w' b1 b2) ?_
  rintro e a2 w2 ⟨g2,s2,ex,c1,c2,c3⟩
  cases ex with
  | norm=>
   cases e <;> try exact c3.elim
   obtain ⟨m,s3,hm,hre2,hI⟩:=c2
   obtain ⟨g3,e1,e2⟩:=hre2 D g2 a2 w2 c3
   exact ⟨m,hm,g3,s3,c1.trans e1,e2,hI⟩
  | exit n=>cases e <;> first | exact c3.elim | exact ⟨g2,s2,.exit n,c1,c2,c3⟩
  | ret=>cases e <;> first | exact c3.elim | exact ⟨g2,s2,.ret,c1,c2,c3⟩
  | pan x=>cases e <;> first | exact c3.elim | exact ⟨g2,s2,.pan x,c1,c2,c3⟩
 | .exit id,ac,hs,r,D,hsi,Q,s,h,g,a,w,hg,hr=>by
  cases hs
  exact wpIn_exit ⟨g,s,.exit id,hg,h,rfl,hr⟩
 | .ret,ac,hs,r,D,hsi,Q,s,h,g,a,w,hg,hr=>by
  cases hs
  exact wpIn_ret ⟨g,s,.ret,hg,h,hr⟩
 | .rangeFunc f ps x y,ac,hs,r,D,hsi,Q,s,h,g,a,w,hg,hr=>by
  obtain ⟨hr0,hnm⟩:r = none∧D.nm = false:=hsi.resolve_right (by simp [Kp])
  subst hr0
  simp only [slim] at hs
  split at hs
  rotate_left
  ·cases hs
  rename_i hsimp
  split at hs <;> cases hs
  rename_i ax ay hx hy
  simp only [Bool.and_eq_true] at hsimp
  simp only [awp] at h
  split at h <;> try exact h.elim
  rename_i n caps hf
  have hfv:=hr.tm.ev f
  rw [hf] at hfv
  simp only [VR] at hfv
  obtain ⟨fs,cs,e1,e2,e3⟩:=hfv
  have efs:fs = #[]:=by
   apply Array.ext'
   cases h1:fs.toList with
   | nil=>rfl
   | cons=>rw [h1] at e2; simp [VRs] at e2
  subst efs
  refine wpIn_rangeFunc ?_
  intro fn hfn
  obtain ⟨rec,hrec⟩:∃ rec:LoopState→Option Code→Loop,rec = fun st pe=>{ state:=st,pending:=pe,fn,tmps:=a.tmps,params:=ps,assign:=x,body:=y,defers:=w.heap.size }:=⟨_,rfl⟩
  obtain ⟨hle1,hB⟩:=hr.hr.allocFz (o:=.deferred (some [])) rfl
  have f2:=hr.hr.fresh.2.1
  obtain ⟨g1,hg1⟩:∃ g1,g1 = g.frz w.heap.size (.deferred (some [])):=⟨_,rfl⟩
  rw [← hg1] at hle1 hB
  have hD1:g1.fz w.heap.size = some (.deferred (some [])):=by rw [hg1]; simp [Gh.frz]
  have hC:=hB.allocRaw (o:=.loop (rec .ready none)) rfl
  have hlr:s.h.r (w.heap.size+1) = none:=by have:=hB.freshR; rwa [World.size_alloc] at this
  rw [World.size_alloc] at hC
  obtain ⟨W1,hW1⟩:∃ W1,(w.alloc (.deferred (some []))).alloc (.loop (rec .ready none)) = W1:=⟨_,rfl⟩
  rw [hW1] at hC
  have hcall:=h (w.heap.size+1) g1 (fun st pe=>.loop (rec st pe)) (fun _ _=>rfl) hlr ?_
  rotate_left
  ·intro args h2 K hlen h2l hbody g2 w2 vs hgb hv hh2
   have hl2:=(hh2.raw _ _ h2l).1.1
   have hvl:vs.size = ps.size:=by rw [← Array.length_toList,← hv.length,hlen,Array.length_toList]
   have hyd:=run_yield (P:=P) (args:=vs) hl2 (by rw [hrec]; exact hvl)
   rw [hrec] at hyd
   refine ⟨_,_,_,_,hyd,roundIn_of_wpIn (F:=Fence.wide) trivial ?_⟩
   obtain ⟨D2,hD2⟩:∃ D2:Gh,D2 = { g2 with tl:=[] }:=⟨_,rfl⟩
   have hD2l:D2.le g2:=by rw [hD2]; exact ⟨rfl,fun _ _ h=>h,fun _ _ h=>h⟩
   have hrel:Rel D2 g2 ⟨setAll s.tm ps.toList args,h2⟩ { tmps:=(ps.zip vs).foldl (fun tmps (p:Nat×Value)=>tmps.setIfInBounds p.1 p.2) a.tmps,defers:=[] } w2:=
    ⟨TR.setAll (hr.tm.cmono (hle1.cle.trans hgb)) hv hvl,hh2,Wta.nil _ _ (by rw [hD2])⟩
   refine wpIn_mono (Y2a hT hmix x ax hx (some (w.heap.size+1)) D2 (.inr hsimp.1) _ _ hbody g2 _ w2 hD2l hrel) ?_
   rintro e a3 w3 ⟨g3,s3,ex,b1,b2,b3⟩
   cases ex with
   | norm=>
    cases e <;> try exact b3.elim
    obtain ⟨c1,c2⟩:=b2
    have hl3:=(b3.hr.raw _ _ c1).1.1
    refine ⟨_,run_beginRound hl3 (by rw [hrec]),?_⟩
    have hrel3:Rel D2 g3 ⟨s3.tm,s3.h.updR (w.heap.size+1) (.loop (rec .busy none))⟩ a3 (w3.putObj (w.heap.size+1) (.loop { rec .ready none with state:=.busy })):=by
     have:=b3.hr.putRaw (o':=.loop (rec .busy none)) c1 rfl
     rw [hrec] at this ⊢
     exact ⟨b3.tm,this,b3.df⟩
    refine wpIn_mono (Y2a hT hmix y ay hy (some (w.heap.size+1)) D2 (.inr hsimp.2) _ _ c2 g3 a3 _ b1 hrel3) ?_
    rintro e a4 w4 ⟨g4,s4,ex,d1,d2,d3⟩
    replace d1:g2.le g4:=by rw [hD2] at d1; exact ⟨d1.w0,d1.fz,d1.shp⟩
    cases ex with
    | norm=>
     cases e <;> try exact d3.elim
     obtain ⟨k1,k2⟩:=d2
     have hl4:=(d3.hr.raw _ _ k1).1.1
     have hp:=d3.hr.putRaw (o':=.loop (rec .ready none)) k1 rfl
     refine ⟨_,_,run_endRound none hl4,g4,_,Zk true,.bool true,rfl,d1,?_,by simp [VR,Zk],none,rfl,k2⟩
     rw [hrec] at hp ⊢; exact hp
    | ret=>
     cases e <;> try exact d3.elim
     obtain ⟨k1,k2⟩:=d2
     have hl4:=(d3.hr.raw _ _ k1).1.1
     have hp:=d3.hr.putRaw (o':=.loop (rec .done (some .ret))) k1 rfl
     refine ⟨_,_,run_endRound (some .ret) hl4,g4,_,Zk false,.bool false,rfl,d1,?_,by simp [VR,Zk],some .ret,rfl,k2⟩
     rw [hrec] at hp ⊢; exact hp
    | exit id=>
     cases e <;> try exact d3.elim
     obtain ⟨rfl,d3⟩:=d3
     obtain ⟨k1,k2⟩:=d2
     have hl4:=(d3.hr.raw _ _ k1).1.1
     have hp:=d3.hr.putRaw (o':=.loop (rec .done (some (.exit id)))) k1 rfl
     refine ⟨_,_,run_endRound (some (.exit id)) hl4,g4,_,Zk false,.bool false,rfl,d1,?_,by simp [VR,Zk],some (.exit id),rfl,k2⟩
     rw [hrec] at hp ⊢; exact hp
    | pan x=>exact d2.elim
   | exit n=>exact b2.elim
   | ret=>exact b2.elim
   | pan x=>exact b2.elim
  refine ⟨w.heap.size+1,[{ target:=.collected w.heap.size,args:=#[] }],W1,{ target:=.fn (.func n) cs,args:=#[.func (.yield (w.heap.size+1)) #[] #[]] },W1,n,
   #[.func (.yield (w.heap.size+1)) #[] #[]]++cs,W1,?_,?_,fun _ _=>trivial,?_,fun e=>(by simp [Fr,Fence.wide] at e),?_⟩
  ·rw [← hW1,hrec]; exact run_enterLoop_outer _ _ _ _ _
  ·simp only [resolve,e1]
   simp [go_sem]
  ·obtain ⟨⟨fn',c1,c2,c3⟩,_⟩:=hcall
   have hb:¬ fn'.body = none:=by intro e; rw [e] at c3; cases c3
   have hn:fn'.name ≠ "runtime.NumGoroutine":=by simpa using c2
   simp [invoke,callFunc,c1,hn,hb]
  ·refine (calls_in (r:=none) (n:=0 - 1)).2 ?_
   have hvs:VRs g1 (.yld (w.heap.size+1) g1 :: caps) (#[Value.func (.yield (w.heap.size+1)) #[] #[]]++cs).toList:=by
    rw [Array.toList_append]
    exact ⟨by simp only [VR]; exact ⟨trivial,Gh.cle.refl _⟩,e3.mono hle1 _ _⟩
   refine (hcall.2 g1 W1 _ hvs hC).mono ?_
   rintro e w2 ⟨g',h',E,b1,b2,⟨⟨xr,rfl⟩,pe,st,c1,c2,c3⟩,b4⟩
   cases e with
   | panicked c=>exact b4.elim
   | outgrown=>exact b4.elim
   | returned v=>
    have hl2:=(b2.raw _ _ c1).1.1
    have hend:=run_endLoop (P:=P) hl2 (by rw [hrec]; exact c2)
    have hp:=(b2.putRaw (o':=.loop { rec st pe with state:=.exhausted }) c1 rfl).delRaw (w.heap.size+1)
    have hhp:(h'.updR (w.heap.size+1) (.loop { rec st pe with state:=.exhausted })).delR (w.heap.size+1) = h'.delR (w.heap.size+1):=
     Hp.ext (fun _=>rfl) (fun z=>by simp only [Hp.delR,Hp.updR]; split <;> rfl)
    rw [hhp] at hp
    have hpen:(rec st pe).pending = pe:=by rw [hrec]
    have hgg:g.le g':=hle1.trans b1
    have hrel:Rel D g' ⟨s.tm,h'.delR (w.heap.size+1)⟩ { a with defers:=[{ target:=.collected w.heap.size,args:=#[] }]++a.defers } (w2.putObj (w.heap.size+1) (.loop { rec st pe with state:=.exhausted })):=by
     refine ⟨hr.tm.mono hgg,hp,hr.df.push hgg f2 (b1.fz _ _ hD1) ?_ hnm⟩
     cases e:D.fz w.heap.size with
     | none=>rfl
     | some o=>have:=hg.fz _ _ e; rw [f2] at this; cases this
    refine ⟨pe,_,hend.trans (congrArg (fun z=>Result.ok z (w2.putObj (w.heap.size+1) (.loop { rec st pe with state:=.exhausted }))) hpen),?_⟩
    cases pe with
    | none=>exact ⟨g',_,.norm,hg.trans hgg,c3,hrel⟩
    | some c=>
     unfold apend at c3
     split at c3
     ·rename_i e; cases e
     ·rename_i e; cases e; exact wpIn_ret ⟨g',_,.ret,hg.trans hgg,c3,hrel⟩
     ·rename_i e; cases e; exact wpIn_exit ⟨g',_,.exit _,hg.trans hgg,c3,rfl,hrel⟩
     ·exact c3.elim
 | .scope x,ac,hs,r,D,hsi,Q,s,h,g,a,w,hg,hr=>by
  simp only [slim] at hs
  split at hs <;> cases hs
  rename_i ax hx
  simp only [awp] at h
  obtain ⟨hr0,hnm⟩:r = none∧D.nm = false:=hsi.resolve_right (by simp [Kp])
  subst hr0
  refine (wpIn_wide (n:=0)).2 (wp_scope_straight ((wpIn_wide (n:=0)).1 (wpIn_mono (Y2a hT hmix x ax hx none D (.inl ⟨rfl,hnm⟩) _ s h g a w hg hr) ?_)))
  rintro e a' w' ⟨g',s',ex,b1,b2,b3⟩
  cases ex with
  | norm=>cases e <;> first | exact b3.elim | exact ⟨g',s',.norm,b1,b2,b3⟩
  | exit n=>cases e <;> first | exact b3.elim | exact ⟨g',s',.exit n,b1,b2,b3⟩
  | ret=>cases e <;> first | exact b3.elim | exact ⟨g',s',.ret,b1,b2,b3⟩
  | pan x=>cases e <;> first | exact b3.elim | exact ⟨g',s',.pan x,b1,b2,b3⟩
 | .label _,ac,hs,r,D,hsi,Q,s,h,g,a,w,hg,hr=>by
  cases hs
  exact wpIn_label ⟨g,s,.norm,hg,h,hr⟩
 | .goto _,ac,hs,_,_,_,_,_,_,_,_,_,_,_=>by cases hs
 | .refuse _,ac,hs,_,_,_,_,_,_,_,_,_,_,_=>by cases hs
def Zf (x:AV) (h:Hp) (x':AV) (h':Hp):Prop:=∀ g w v,HR g h w→VR g x v→∃ g',g.le g'∧HR g' h' w∧VR g' x' v
def Vpa (T:Tab) (tm:List AV) (h:Hp):ResultVar→Option AV
 | .tmp t=>some (tm.getD t .any)
 | .cell p t=>match tm.getD p .any with
  | .optr b sz r c=>match T t,h b with
   | some ti,some o=>if o.sz = sz then match o.rows[r]? with
    | some row=>apart ti row c
    | none=>none else none
   | _,_=>none
  | _=>none
def Yqa (T:Tab) (tm:List AV) (h:Hp):List ResultVar→Option (List AV)
 | []=>some []
 | r :: rs=>match Vpa T tm h r,Yqa T tm h rs with
  | some x,some xs=>some (x :: xs)
  | _,_=>none
def Wm (T:Tab) (rs:List ResultVar) (tm:List AV) (h:Hp):Option AV:=match Yqa T tm h rs with
 | some [x]=>some x
 | some xs=>some (.tup xs)
 | none=>none
theorem aResults_run (hT:Kb P T) {fn:Func} {rs:List ResultVar} (hr:fn.results.toList = rs) {tm:List AV} {h:Hp} {x:AV} (hx:Wm T rs tm h = some x) {g:Gh} {a:Act} (ht:TR g tm a.tmps) {w:World} (hh:HR g h w) :
  ∃ v,(results fn a.tmps).run P w = .ok v w∧VR g x v:=by
 have key:∀ (l:List ResultVar) (xs:List AV),Yqa T tm h l = some xs →
   ∃ vs:List Value,(l.mapM (m:=Sem) fun | .tmp t=>pure (a.tmps.getD t undef) | .cell p t=>do loadVar t (← asAddr (a.tmps.getD p undef))).run P w = .ok vs w∧VRs g xs vs∧vs.length = l.length:=by
  intro l
  induction l with
  | nil=>intro xs hx; simp [Yqa] at hx; subst hx; exact ⟨[],rfl,trivial,rfl⟩
  | cons r l ih=>
   intro xs hx
   simp only [Yqa] at hx
   split at hx <;> cases hx
   rename_i y ys hy hys
   obtain ⟨vs,h1,h2,h3⟩:=ih ys hys
   cases r with
   | tmp t=>
    cases hy
    have:=ht.ev (.tmp t)
    simp only [ev,Act.eval] at this
    refine ⟨a.tmps.getD t undef :: vs,?_,?_,by simp [h3]⟩
    ·rw [List.mapM_cons]
     simp only [Sem.run_bind,Sem.run_pure,Result.andThen_ok,h1]
    ·exact ⟨by simpa using this,h2⟩
   | cell p t=>
    simp only [Vpa] at hy
    have hp:=ht.ev (.tmp p)
    simp only [ev,Act.eval] at hp
    split at hy <;> try cases hy
    rename_i b sz r c hq
    rw [hq] at hp
    simp only [VR] at hp
    split at hy <;> try cases hy
    rename_i ti o hti hb
    split at hy <;> try cases hy
    rename_i hsz
    split at hy <;> try cases hy
    rename_i row hrow
    obtain ⟨i',d,z,ht'⟩:=hT.get hti
    obtain ⟨q1,cur,e,⟨fr,q2,qt⟩,q3,q4⟩:=hh.ob b o hb
    obtain ⟨l1,l2⟩:=q4.get hrow
    obtain ⟨v,hv1,hv2⟩:=load_run (w:=w) hT ht' l2 hy (a:=⟨b,r * sz+c,none⟩) rfl (by simp [hsz]) q2
    refine ⟨v :: vs,?_,⟨hv2,h2⟩,by simp [h3]⟩
    rw [List.mapM_cons]
    have hp':a.tmps.getD p undef = .pointer (some ⟨b,r * sz+c,none⟩):=hp
    have e1:(do loadVar t (← asAddr (a.tmps.getD p undef)):Sem Value).run P w = .ok v w:=by
     rw [hp']; simp [asAddr,hv1]
    have e1':=e1
    rw [Sem.run_bind] at e1'
    simp only [Sem.run_bind,Sem.run_pure,Result.andThen_ok,h1,e1']
 unfold results
 rw [Array.mapM_eq_mapM_toList,hr]
 unfold Wm at hx
 split at hx <;> cases hx
 ·rename_i hl
  obtain ⟨vs,h1,h2,h3⟩:=key rs _ hl
  match vs,h2 with
  | [v],h2=>
   refine ⟨v,?_,h2.1⟩
   simp only [Sem.run_bind,Sem.run_map,Sem.run_pure]
   have q:=congrArg (fun (r:Result (List Value))=>(r.andThen fun a w'=>Result.ok a.toArray w').andThen fun a w'=>Result.ok (if h:a.size = 1 then a[0] else Value.tuple a) w') h1
   refine q.trans ?_
   simp
  | [],h2=>simp [VRs] at h2
  | _ :: _ :: _,h2=>simp [VRs] at h2
 ·rename_i xs hne hl
  obtain ⟨vs,h1,h2,h3⟩:=key rs _ hl
  have hlen:vs.length≠1:=by
   intro e
   have:=h2.length
   rw [e] at this
   match xs,this with
   | [x],_=>exact hne x rfl
  refine ⟨.tuple vs.toArray,?_,by simp only [VR]; exact ⟨_,rfl,h2⟩⟩
  simp only [Sem.run_bind,Sem.run_map,Sem.run_pure]
  have q:=congrArg (fun (r:Result (List Value))=>(r.andThen fun a w'=>Result.ok a.toArray w').andThen fun a w'=>Result.ok (if h:a.size = 1 then a[0] else Value.tuple a) w') h1
  refine q.trans ?_
  simp [hlen]
def retQ (T:Tab) (rs:List ResultVar) (Q:AE→Hp→Prop):AX→St→Prop
 | .norm,s | .ret,s=>∃ x x' h',Wm T rs s.tm s.h = some x∧Zf x s.h x' h'∧Q (.ret x') h'
 | .pan x,s=>∃ x' h',Zf x s.h x' h'∧Q (.pan x') h'
 | .exit _,_=>False
theorem Y0b {D:Gh} {fn:Func} {tmps:Array Value} {R:Ending→World→Prop} {u:FrameMode} (hu:u≠.run) (hgl:Glob D.fz) {h:Hp} {tl:List Deferred}:∀ (ds:List Deferred) (g:Gh) (w:World),D.le g→HR g h w→Marks1 D g ds →
  (∀ gf wf,D.le gf→g.cle gf→HR gf h wf→LeavesInM (Fr none) 0 P fn tmps R tl u wf)→LeavesInM (Fr none) 0 P fn tmps R (ds++tl) u w
 | [],g,w,hD,hh,hm,k=>k g w hD (Gh.cle.refl g) hh
 | d :: ds,g,w,hD,hh,hm,k=>by
  obtain ⟨b,e1,e2,e3⟩:=hm.1 d (by simp)
  subst e1
  have hw:=hh.fz b _ e2
  let g1:Gh:={ g with fz:=fun x=>if x = b then none else g.fz x }
  have hg1:∀ x y,g1.fz x = some y→x≠b∧g.fz x = some y:=fun x y hx=>by
   have:(if x = b then none else g.fz x) = some y:=hx
   split at this
   ·cases this
   ·rename_i e; exact ⟨e,this⟩
  have hne:∀ x,x≠b→g1.fz x = g.fz x:=fun x e=>by show (if x = b then none else g.fz x) = _; rw [if_neg e]
  have hD1:D.le g1:=by
   refine ⟨hD.w0,fun x y hx=>?_,hD.shp⟩
   rw [hne]
   ·exact hD.fz x y hx
   ·rintro rfl; rw [e3] at hx; cases hx
  have hc1:g.cle g1:=by
   refine ⟨rfl,fun x c e fr hx=>?_,fun _ _ h=>h⟩
   rw [hne]
   ·exact hx
   ·rintro rfl; rw [e2] at hx; cases hx
  have hh1:HR g1 h (w.putObj b (.deferred none)):=by
   refine hh.turn hw rfl rfl hg1 rfl (Z9a hD1.fz hgl) (fun x y hx=>⟨hx,fun _ _ h=>h.cmono hc1 _ _⟩) (fun x y hx=>.inl ⟨?_,hx⟩)
   rintro rfl
   have:=(hh.raw _ y hx).2
   rw [e2] at this; cases this
  refine ⟨hu,.inl ⟨b,_,rfl,run_takeDeferred hw,?_⟩⟩
  refine Y0b hu hgl ds g1 _ hD1 hh1 ⟨fun d hd=>?_,(List.nodup_cons.1 hm.2).2⟩ fun gf wf l1 l2 l3=>k gf wf l1 (hc1.trans l2) l3
  obtain ⟨b',q1,q2,q3⟩:=hm.1 d (List.mem_cons_of_mem _ hd)
  refine ⟨b',q1,?_,q3⟩
  rw [hne]
  ·exact q2
  ·rintro rfl
   exact (List.nodup_cons.1 hm.2).1 (q1 ▸ hd)
theorem leaves_marks {D:Gh} {fn:Func} {tmps:Array Value} {R:Ending→World→Prop} {u:FrameMode} (hu:u≠.run) (hgl:Glob D.fz) {h:Hp} (ds:List Deferred) (g:Gh) (w:World) (hD:D.le g) (hh:HR g h w) (hm:Wta D g ds)
  (k:∀ gf wf,D.le gf→g.cle gf→HR gf h wf→LeavesInM (Fr none) 0 P fn tmps R D.tl u wf):LeavesInM (Fr none) 0 P fn tmps R ds u w:=by
 obtain ⟨l1,rfl,_,m⟩:=hm
 exact Y0b hu hgl l1 g w hD hh m k
theorem acalls_of (hT:Kb P T) (hmix:P.follows .mixedOrders = true) {f:Nat} {fn:Func} {c:Code} {ac:AC} {ann:Nat→Ann} (hf:P.funcs[f]? = some fn) (hb:fn.body = some c) (hn:(fn.name == "runtime.NumGoroutine") = false)
  (hs:slim ann c = some ac) {rs:List ResultVar} (hr:fn.results.toList = rs) {nt:Nat} (hnt:fn.ntmps = nt) {args:List AV} {h:Hp} {Q:AE→Hp→Prop}
  (H:awp P T ac (retQ T rs Q) ⟨args++List.replicate (nt - args.length) .any,h⟩):Zo P f args h Q:=by
 refine ⟨⟨fn,hf,hn,by rw [hb]; rfl⟩,fun g w vs hv hh=>?_⟩
 have hlen:=hv.length
 subst hnt
 obtain ⟨D,hD⟩:∃ D:Gh,D = { g with tl:=[],nm:=false }:=⟨_,rfl⟩
 have hDl:D.le g:=by rw [hD]; exact ⟨rfl,fun _ _ h=>h,fun _ _ h=>h⟩
 have hDt:D.tl = []:=by rw [hD]
 have hgl:∀ g',D.le g'→g.le g':=fun g' k=>by rw [hD] at k; exact ⟨k.w0,k.fz,k.shp⟩
 have hrel:Rel D g ⟨args++List.replicate (fn.ntmps - args.length) .any,h⟩ { tmps:=vs++Array.replicate (fn.ntmps - vs.size) undef,defers:=[] } w:=by
  refine ⟨⟨by simp [hlen],fun k x hx=>?_⟩,hh,Wta.nil _ _ hDt⟩
  simp only at hx ⊢
  rw [List.getElem?_append] at hx
  split at hx
  ·obtain ⟨v,h1,h2⟩:=hv.get hx
   have hk:=(List.getElem?_eq_some_iff.1 h1).1
   refine ⟨v,?_,h2⟩
   rw [Array.getElem?_append,if_pos (by simpa using hk)]
   simpa using h1
  ·rw [List.getElem?_replicate] at hx
   split at hx <;> cases hx
   rename_i h1 h2
   refine ⟨undef,?_,by simp [VR]⟩
   have:¬ k < vs.size:=by rw [← Array.length_toList]; omega
   rw [Array.getElem?_append,if_neg this,Array.getElem?_replicate,if_pos]
   have:vs.size = args.length:=by rw [hlen,Array.length_toList]
   omega
 refine (calls_in (r:=none) (n:=0)).1 (callsIn_of_wp_marks hf hb trivial (wpIn_mono (Y2a hT hmix c ac hs none D (.inl ⟨rfl,by rw [hD]⟩) _ _ H g _ w hDl hrel) ?_))
 rintro e a' w' ⟨g',s',ex,b1,b2,b3⟩
 have ret:(∃ x x' h',Wm T rs s'.tm s'.h = some x∧Zf x s'.h x' h'∧Q (.ret x') h')→Rel D g' s' a' w'→LeavesInM (Fr none) 0 P fn a'.tmps (fun e w'=>∃ g' h' E,g.le g'∧HR g' h' w'∧Q E h'∧match E,e with
   | .ret x,.returned v=>VR g' x v
   | .pan x,.panicked chain=>∃ v,chain = [{ v,recovered:=false }]∧VR g' x v
   | _,_=>False) a'.defers .returning w':=by
  rintro ⟨x,x',h',q1,q2,q3⟩ hrel
  refine leaves_marks (by simp) (by rw [hD]; exact hh.gl) a'.defers g' w' b1 hrel.hr hrel.df fun gf wf l1 l2 l3=>?_
  rw [hDt]
  obtain ⟨v,v1,v2⟩:=aResults_run hT (w:=wf) hr q1 (hrel.tm.cmono l2) l3
  obtain ⟨g'',c1,c2,c3⟩:=q2 gf wf v l3 v2
  exact ⟨v,v1,g'',h',.ret x',(hgl _ l1).trans c1,c2,q3,c3⟩
 cases ex with
 | norm=>
  cases e <;> try exact b3.elim
  exact ret b2 b3
 | ret=>
  cases e <;> try exact b3.elim
  exact ret b2 b3
 | exit n=>exact b2.elim
 | pan x=>
  cases e <;> try exact b3.elim
  obtain ⟨_,hh',hd,v,rfl,hv'⟩:=b3
  obtain ⟨x',h',q2,q3⟩:=b2
  refine leaves_marks (by simp) (by rw [hD]; exact hh.gl) a'.defers g' w' b1 hh' hd fun gf wf l1 l2 l3=>?_
  rw [hDt]
  obtain ⟨g'',c1,c2,c3⟩:=q2 gf wf v l3 (hv'.cmono l2 _ _)
  exact ⟨g'',h',.pan x',(hgl _ l1).trans c1,c2,q3,v,rfl,c3⟩
def Yy:Nat→Ann:=fun _=>{}
theorem acalls_at (hT:Kb P T) (hmix:P.follows .mixedOrders = true) {f:Nat} {fn:Func} {ac:AC} {ann:Nat→Ann} (hf:P.funcs[f]? = some fn) {rs:List ResultVar} {nt:Nat}
  (hs:fn.body.bind (slim ann) = some ac∧(fn.name == "runtime.NumGoroutine") = false∧fn.results.toList = rs∧fn.ntmps = nt) {args:List AV} {h:Hp} {Q:AE→Hp→Prop}
  (H:awp P T ac (retQ T rs Q) ⟨args++List.replicate (nt - args.length) .any,h⟩):Zo P f args h Q:=by
 obtain ⟨h1,h2,h3,h4⟩:=hs
 cases e:fn.body with
 | none=>rw [e] at h1; cases h1
 | some c=>rw [e] at h1; exact acalls_of hT hmix hf e h2 h1 h3 h4 H
theorem Zf.refl (x:AV) (h:Hp):Zf x h x h:=fun g w v hh hv=>⟨g,Gh.le.refl g,hh,hv⟩
theorem Zf.forget {x:AV} {h h':Hp} (k:h'.sub h):Zf x h x h':=fun g w v hh hv=>⟨g,Gh.le.refl g,hh.forget k,hv⟩
theorem Zf.trans {x y z:AV} {h h' h'':Hp} (a:Zf x h y h') (b:Zf y h' z h''):Zf x h z h'':=fun g w v hh hv=>by
 obtain ⟨g1,c1,c2,c3⟩:=a g w v hh hv
 obtain ⟨g2,d1,d2,d3⟩:=b g1 w v c2 c3
 exact ⟨g2,c1.trans d1,d2,d3⟩
theorem HR.frz {g:Gh} {h:Hp} {w:World} (hh:HR g h w) {b:Nat} {o:Ob} (hb:h b = some o):∃ c e fr,g.le (g.frz b (.cells c e fr))∧HR (g.frz b (.cells c e fr)) (h.del b) w∧Z0 g c o.sz 0 o.rows∧g.shp b = some (e,c.size):=by
 obtain ⟨q1,c,e,⟨fr,q2,qt⟩,q3,q4⟩:=hh.ob b o hb
 have hle:g.le (g.frz b (.cells c e fr)):=⟨rfl,fun k y hk=>(by
  simp only [Gh.frz]
  rw [if_neg]
  ·exact hk
  ·intro e1; subst e1; rw [q1.1] at hk; cases hk),fun _ _ h=>h⟩
 refine ⟨c,e,fr,hle,?_,q4,q3⟩
 refine ⟨hh.os,hh.tape,hh.output,hh.size,?_,hh.shp,?_,Z9a hle.fz hh.gl,fun x y hx=>⟨(hh.raw x y hx).1,by simp only [Gh.frz]; rw [if_neg (hh.raw_ne hb hx)]; exact (hh.raw x y hx).2⟩⟩
 ·intro k y hk
  simp only [Gh.frz] at hk
  split at hk
  ·rename_i e1; subst e1; cases hk; exact q2
  ·exact hh.fz k y hk
 ·intro k y hk
  simp only [Hp.del] at hk
  split at hk
  ·cases hk
  ·rename_i hne
   obtain ⟨a1,c',e',a2,a3,a4⟩:=hh.ob k y hk
   exact ⟨⟨by simp only [Gh.frz]; rw [if_neg hne]; exact a1.1,a1.2⟩,c',e',a2,a3,a4.mono hle c' y.sz 0 y.rows⟩
theorem Zf.freeze {h:Hp} {b sz off len:Nat} {o:Ob} (hb:h b = some o) (hsz:o.sz = sz) (hle:off+len≤o.rows.length):Zf (.osl b sz off len) h (.isl sz ((o.rows.drop off).take len)) (h.del b):=by
 intro g w v hh hv
 subst hsz
 obtain ⟨c,e,fr,a1,a2,a3,a4⟩:=hh.frz hb
 refine ⟨_,a1,a2,?_⟩
 simp only [VR] at hv ⊢
 obtain ⟨a,cap,rfl,hcap,hs,hv⟩:=hv
 have hlen:((o.rows.drop off).take len).length = len:=by simp; omega
 rw [hlen]
 refine ⟨some a,cap,rfl,hcap,?_⟩
 by_cases h0:len = 0
 ·left; subst h0; simp
 ·right
  rcases hv with hv | ⟨rfl,_⟩
  ·omega
  ·refine ⟨_,c,e,fr,rfl,rfl,by simp [Gh.frz],?_⟩
   have:=((a3.mono a1 c o.sz 0 o.rows).drop off).take len
   rwa [Nat.zero_add] at this
theorem Zf.nil (h:Hp) (sz:Nat):Zf anil h (.isl sz []) h:=by
 intro g w v hh hv
 refine ⟨g,Gh.le.refl g,hh,?_⟩
 simp only [VR,anil] at hv ⊢
 subst hv
 exact ⟨none,0,rfl,Nat.le_refl _,.inl trivial⟩
theorem Xg.refl (s:St):Xg s s:=fun D g a w hr=>⟨g,Gh.le.refl g,hr⟩
theorem Xg.trans {s s' s'':St} (h:Xg s s') (k:Xg s' s''):Xg s s'':=fun D g a w hr=>by
 obtain ⟨g1,a1,a2⟩:=h D g a w hr
 obtain ⟨g2,b1,b2⟩:=k D g1 a w a2
 exact ⟨g2,a1.trans b1,b2⟩
theorem Xg.forget {tm:List AV} {h h':Hp} (k:h'.sub h):Xg ⟨tm,h⟩ ⟨tm,h'⟩:=fun D g a w hr=>⟨g,Gh.le.refl g,hr.tm,hr.hr.forget k,hr.df⟩
def flat:AV→Bool
 | .any | .val _=>true
 | .tup vs=>vs.all fun | .val _=>true | .any=>true | _=>false
 | _=>false
theorem flat_vr {x:AV} (hf:flat x = true) {g g':Gh} {v:Value} (h:VR g x v):VR g' x v:=by
 cases x <;> simp only [flat,Bool.false_eq_true] at hf
 ·simp [VR]
 ·simpa [VR] using h
 ·rename_i vs
  simp only [VR] at h ⊢
  obtain ⟨us,rfl,h⟩:=h
  refine ⟨us,rfl,?_⟩
  generalize us.toList = l at h
  induction vs generalizing l with
  | nil=>cases l <;> simp_all [VRs]
  | cons y ys ih=>
   cases l with
   | nil=>simp [VRs] at h
   | cons u l=>
    simp only [VRs] at h ⊢
    simp only [List.all_cons,Bool.and_eq_true] at hf
    refine ⟨?_,ih hf.2 l h.2⟩
    have h1:=hf.1
    cases y <;> simp at h1
    ·simp [VR]
    ·simpa [VR] using h.1
def Gh.all (g:Gh) (h:Hp) (w:World):Gh:={ g with fz:=fun b=>if (h b).isSome then w.heap[b]? else g.fz b }
theorem HR.all {g:Gh} {h:Hp} {w:World} (hh:HR g h w):g.le (g.all h w)∧HR (g.all h w) ⟨fun _=>none,h.r⟩ w:=by
 have hle:g.le (g.all h w):=by
  refine ⟨rfl,fun b o hb=>?_,fun _ _ h=>h⟩
  simp only [Gh.all]
  split
  ·rename_i hs
   obtain ⟨ob,ho⟩:=Option.isSome_iff_exists.1 hs
   have:=(hh.ob b ob ho).1.1
   rw [this] at hb; cases hb
  ·exact hb
 constructor
 ·exact hle
 ·refine ⟨hh.os,hh.tape,hh.output,hh.size,fun b o hb=>?_,hh.shp,fun b o hb=>(by cases hb),Z9a hle.fz hh.gl,fun x y hx=>⟨(hh.raw x y hx).1,?_⟩⟩
  rotate_left
  ·simp only [Gh.all]
   cases e:h x with
   | none=>exact (hh.raw x y hx).2
   | some o=>exact absurd rfl (hh.raw_ne e hx)
  simp only [Gh.all] at hb
  split at hb
  ·exact hb
  ·exact hh.fz b o hb
def Lent (h:Hp) (x x':AV):Prop:=∀ g w v,HR g h w→VR g x v→VR (g.all h w) x' v
theorem Lent.refl (h:Hp) (x:AV):Lent h x x:=fun g w v hh hv=>hv.mono hh.all.1 _ _
theorem Lent.osl {h:Hp} {b sz off len:Nat} {o:Ob} (hb:h b = some o) (hsz:o.sz = sz) (hle:off+len≤o.rows.length):Lent h (.osl b sz off len) (.isl sz ((o.rows.drop off).take len)):=by
 intro g w v hh hv
 subst hsz
 obtain ⟨q1,c,e,⟨fr,q2,qt⟩,q3,q4⟩:=hh.ob b o hb
 simp only [VR] at hv ⊢
 obtain ⟨a,cap,rfl,hcap,hs,hv⟩:=hv
 have hlen:((o.rows.drop off).take len).length = len:=by simp; omega
 rw [hlen]
 refine ⟨some a,cap,rfl,hcap,?_⟩
 by_cases h0:len = 0
 ·left; subst h0; simp
 ·right
  rcases hv with hv | ⟨rfl,_⟩
  ·omega
  ·refine ⟨_,c,e,fr,rfl,rfl,by simp [Gh.all,hb,q2],?_⟩
   have:=((q4.mono hh.all.1 c o.sz 0 o.rows).drop off).take len
   rwa [Nat.zero_add] at this
theorem Lent.nil (h:Hp) (sz:Nat):Lent h anil (.isl sz []):=by
 intro g w v hh hv
 simp only [VR,anil] at hv ⊢
 subst hv
 exact ⟨none,0,rfl,Nat.le_refl _,.inl trivial⟩
theorem Lent.optr {h:Hp} {b sz r c:Nat} {o:Ob} (hb:h b = some o) (hsz:o.sz = sz) {row:List AV} (hr:o.rows[r]? = some row):Lent h (.optr b sz r c) (.iptr row c):=by
 intro g w v hh hv
 subst hsz
 obtain ⟨q1,cur,e,⟨fr,q2,qt⟩,q3,q4⟩:=hh.ob b o hb
 simp only [VR] at hv ⊢
 subst hv
 refine ⟨_,cur,e,fr,rfl,rfl,by simp,by simp [Gh.all,hb,q2],?_⟩
 have:=(q4.get hr).2.mono hh.all.1 _ _ _
 simpa using this
def Lents (h:Hp):List AV→List AV→Prop
 | [],[]=>True
 | x :: xs,y :: ys=>Lent h x y∧Lents h xs ys
 | _,_=>False
theorem Lents.run {h:Hp} {g:Gh} {w:World} (hh:HR g h w):∀ {xs ys:List AV} {vs:List Value},Lents h xs ys→VRs g xs vs→VRs (g.all h w) ys vs
 | [],[],[],_,_=>trivial
 | x :: xs,y :: ys,v :: vs,h1,h2=>⟨h1.1 g w v hh h2.1,Lents.run hh h1.2 h2.2⟩
 | [],[],_ :: _,_,h2=>by simp [VRs] at h2
 | _ :: _,_ :: _,[],_,h2=>by simp [VRs] at h2
theorem Kya.lent {f:Nat} {args args':List AV} {x:AV} {h:Hp} (hp:Kya P f args' x) (hf:flat x = true) (hl:Lents h args args'):Zo P f args h fun e h'=>e = .ret x∧h' = h:=by
 refine ⟨(hp h).1,fun g w vs hv hh=>?_⟩
 obtain ⟨hle,hall⟩:=hh.all
 refine ((hp ⟨fun _=>none,h.r⟩).2 (g.all h w) w vs (hl.run hh hv) hall).mono ?_
 rintro e w' ⟨g2,h2,E,a,b,⟨rfl,rfl⟩,d⟩
 cases e with
 | returned v=>
  have same:∀ k,(h k).isSome→w'.heap[k]? = w.heap[k]?:=by
   intro k hk
   obtain ⟨ob,ho⟩:=Option.isSome_iff_exists.1 hk
   obtain ⟨q1,c,t,⟨fr,q2,qt⟩,q3,q4⟩:=hh.ob k ob ho
   rw [q2]
   refine b.fz k _ (a.fz k _ ?_)
   simp [Gh.all,ho,q2]
  let g3:Gh:={ g2 with fz:=fun k=>if (h k).isSome then none else g2.fz k }
  have hg3:g.le g3:=by
   refine ⟨a.w0,fun k o hk=>?_,fun k y hk=>a.shp k y hk⟩
   show (if (h k).isSome then none else g2.fz k) = some o
   split
   ·rename_i hs
    obtain ⟨ob,ho⟩:=Option.isSome_iff_exists.1 hs
    have:=(hh.ob k ob ho).1.1
    rw [this] at hk; cases hk
   ·refine a.fz k o ?_
    simp only [Gh.all]
    rw [if_neg (by assumption)]; exact hk
  refine ⟨g3,h,.ret x,hg3,?_,⟨rfl,rfl⟩,flat_vr hf d⟩
  refine ⟨b.os,b.tape,b.output,b.size,fun k o hk=>?_,b.shp,fun k o hk=>?_,Z9a hg3.fz hh.gl,fun x y hx=>⟨(b.raw x y hx).1,?_⟩⟩
  rotate_right
  ·show (if (h x).isSome then none else g2.fz x) = none
   rw [(b.raw x y hx).2]; split <;> rfl
  ·have:(if (h k).isSome then none else g2.fz k) = some o:=hk
   split at this
   ·cases this
   ·exact b.fz k o this
  ·obtain ⟨q1,c,t,⟨fr,q2,qt⟩,q3,q4⟩:=hh.ob k o hk
   refine ⟨⟨?_,q1.2.mono fun y hy=>hg3.shp _ _ hy⟩,c,t,⟨fr,?_,qt⟩,hg3.shp _ _ q3,q4.mono hg3 c o.sz 0 o.rows⟩
   ·show (if (h k).isSome then none else g2.fz k) = none
    rw [hk]; rfl
   ·rw [same k (by rw [hk]; rfl)]; exact q2
 | panicked c=>exact d.elim
 | outgrown=>exact d.elim
end
end Go.Proofs.YtpkhmfedaaoalaaGreatDoor.AM
namespace Go.Proofs.YtpkhmfedaaoalaaGreatDoor.AM
open Go
section
variable {P:Program} {T:Tab}
theorem awp_skip (Q:AX→St→Prop) (s:St):awp P T .skip Q s = Q .norm s:=rfl
theorem awp_reg (os:List AO) (Q:AX→St→Prop) (s:St):awp P T (.reg os) Q s = aOps P T (Q .norm) (fun tm x h=>Q (.pan x) ⟨tm,h⟩) os s:=rfl
theorem awp_draw (os:List AO) (p:Plan) (Q:AX→St→Prop) (s:St):awp P T (.draw os p) Q s = Ypa P T (fun i=>os.getD i dfltO) (Q .norm) (fun x h=>Q (.pan x) ⟨[],h⟩) p s:=rfl
theorem awp_seq (a b:AC) (Q:AX→St→Prop) (s:St):awp P T (.seq a b) Q s = awp P T a (Y3a (awp P T b Q) Q) s:=rfl
theorem awp_block (id:Nat) (b:AC) (Q:AX→St→Prop) (s:St):awp P T (.block id b) Q s = awp P T b (W3a id Q) s:=rfl
theorem awp_exit (id:Nat) (Q:AX→St→Prop) (s:St):awp P T (.exit id) Q s = Q (.exit id) s:=rfl
theorem awp_ret (Q:AX→St→Prop) (s:St):awp P T .ret Q s = Q .ret s:=rfl
theorem awp_scope (b:AC) (Q:AX→St→Prop) (s:St):awp P T (.scope b) Q s = awp P T b Q s:=rfl
theorem athen_norm (n:St→Prop) (Q:AX→St→Prop) (s:St):Y3a n Q .norm s = n s:=rfl
theorem athen_exit (n:St→Prop) (Q:AX→St→Prop) (k:Nat) (s:St):Y3a n Q (.exit k) s = Q (.exit k) s:=rfl
theorem athen_ret (n:St→Prop) (Q:AX→St→Prop) (s:St):Y3a n Q .ret s = Q .ret s:=rfl
theorem athen_pan (n:St→Prop) (Q:AX→St→Prop) (x:AV) (s:St):Y3a n Q (.pan x) s = Q (.pan x) s:=rfl
theorem ablock_norm (id:Nat) (Q:AX→St→Prop) (s:St):W3a id Q .norm s = Q .norm s:=rfl
theorem ablock_exit (id:Nat) (Q:AX→St→Prop) (k:Nat) (s:St):W3a id Q (.exit k) s = if k = id then Q .norm s else Q (.exit k) s:=rfl
theorem ablock_ret (id:Nat) (Q:AX→St→Prop) (s:St):W3a id Q .ret s = Q .ret s:=rfl
theorem ablock_pan (id:Nat) (Q:AX→St→Prop) (x:AV) (s:St):W3a id Q (.pan x) s = Q (.pan x) s:=rfl
def Weak:List AV→List AV→Prop
 | [],[]=>True
 | x :: xs,y :: ys=>(y = .any∨x = y)∧Weak xs ys
 | _,_=>False
theorem Weak.get:∀ {xs ys:List AV},Weak xs ys→xs.length = ys.length∧∀ (k:Nat) y,ys[k]? = some y→y = .any∨xs[k]? = some y
 | [],[],_=>⟨rfl,fun k y h=>by simp at h⟩
 | x :: xs,y :: ys,h=>by
  obtain ⟨h1,h2⟩:=h
  obtain ⟨g1,g2⟩:=h2.get
  refine ⟨by simp [g1],fun k z hz=>?_⟩
  cases k with
  | zero=>simp at hz ⊢; subst hz; exact h1
  | succ k=>simpa using g2 k z (by simpa using hz)
theorem Xg.weak {tm tm':List AV} {h h':Hp} (hw:Weak tm tm') (hs:h'.sub h):Xg ⟨tm,h⟩ ⟨tm',h'⟩:=fun D g a w hr=>by
 obtain ⟨h1,h2⟩:=hw.get
 refine ⟨g,Gh.le.refl g,⟨by rw [hr.tm.len]; exact h1,fun k y hy=>?_⟩,hr.hr.forget hs,hr.df⟩
 rcases h2 k y hy with rfl | e
 ·have hk:=(List.getElem?_eq_some_iff.1 hy).1
  have hl:a.tmps.size = tm.length:=hr.tm.len
  have:k < a.tmps.size:=by rw [hl,h1]; exact hk
  exact ⟨a.tmps[k],Array.getElem?_eq_getElem this,by simp [VR]⟩
 ·exact hr.tm.at_ k y e
theorem Z7 {σ:Type} {b:AC} {Q:AX→St→Prop} {s:St} (st:σ→St) (inv:σ→Prop) (μ:σ→Nat) (x0:σ) (h0:Xg s (st x0)) (hi:inv x0)
  (h:∀ x,inv x→awp P T b (Y3a (fun s''=>∃ y,μ y < μ x∧inv y∧Xg s'' (st y)) Q) (st x)):awp P T (.loop b) Q s:=by
 refine ⟨fun n s=>∃ x,inv x∧μ x = n∧s = st x,⟨μ x0,st x0,h0,x0,hi,rfl,rfl⟩,?_⟩
 rintro n s' ⟨x,hx,rfl,rfl⟩
 have e:(Y3a (fun s''=>∃ m s0,m < μ x∧Xg s'' s0∧∃ x,inv x∧μ x = m∧s0 = st x) Q) = Y3a (fun s''=>∃ y,μ y < μ x∧inv y∧Xg s'' (st y)) Q:=by
  funext e s''
  cases e <;> try rfl
  simp only [Y3a]
  apply propext
  constructor
  ·rintro ⟨m,s0,hm,hr,y,hy,rfl,rfl⟩; exact ⟨y,hm,hy,hr⟩
  ·rintro ⟨y,hm,hy,hr⟩; exact ⟨_,_,hm,hr,y,hy,rfl,rfl⟩
 rw [e]
 exact h x hx
end
theorem wrap_i64 (x:Int) (h:-9223372036854775808≤x∧x≤9223372036854775807):IntKind.i64.wrap x = x:=by rw [IntKind.wrap_i64]; omega
def onSome {α:Type} (o:Option α) (f:α→Prop):Prop:=match o with | some x=>f x | none=>False
theorem onSome_some {α:Type} (x:α) (f:α→Prop):onSome (some x) f = f x:=rfl
def onBool (x:AV) (a b:Prop):Prop:=match x with | .val (.bool t)=>if t = true then a else b | _=>False
theorem onBool_cond (c a b:Prop) [Decidable c]:onBool (.val (.bool (decide c))) a b = ((c→a)∧(¬ c→b)):=by
 by_cases h:c <;> simp [onBool,h]
theorem onBool_bool (c:Bool) (a b:Prop):onBool (.val (.bool c)) a b = ((c = true→a)∧(c = false→b)):=by
 cases c <;> simp [onBool]
def fork {α β:Type} (x:AV) (p:α→Prop) (s:α) (q:β→Prop) (t:β):Prop:=onBool x (p s) (q t)
theorem fork_true {α β:Type} (p:α→Prop) (s:α) (q:β→Prop) (t:β):fork (.val (.bool true)) p s q t = p s:=rfl
theorem fork_false {α β:Type} (p:α→Prop) (s:α) (q:β→Prop) (t:β):fork (.val (.bool false)) p s q t = q t:=by simp [fork,onBool]
theorem fork_cond {α β:Type} (c:Prop) [Decidable c] (p:α→Prop) (s:α) (q:β→Prop) (t:β):fork (.val (.bool (decide c))) p s q t = ((c→p s)∧(¬ c→q t)):=onBool_cond _ _ _
theorem Zw {α β:Type} (c:Bool) (p:α→Prop) (s:α) (q:β→Prop) (t:β):fork (.val (.bool c)) p s q t = ((c = true→p s)∧(c = false→q t)):=onBool_bool _ _ _
theorem fork_congr {α β:Type} {x x':AV} {p:α→Prop} {s s':α} {q:β→Prop} {t t':β} (e:x = x'):fork x p s q t = fork x' p s q t:=by rw [e]
def Yaa (x:AV) (want:Bool) (p:St→Prop) (s:St) (q:St→Prop) (t:St):Prop:=match x with
 | .val (.bool b)=>if b = want then p s else q t
 | .val _=>q t
 | _=>False
theorem gfork_tt (p:St→Prop) (s:St) (q:St→Prop) (t:St):Yaa (.val (.bool true)) true p s q t = p s:=rfl
theorem gfork_ff (p:St→Prop) (s:St) (q:St→Prop) (t:St):Yaa (.val (.bool false)) false p s q t = p s:=rfl
theorem gfork_ft (p:St→Prop) (s:St) (q:St→Prop) (t:St):Yaa (.val (.bool false)) true p s q t = q t:=by simp [Yaa]
theorem gfork_tf (p:St→Prop) (s:St) (q:St→Prop) (t:St):Yaa (.val (.bool true)) false p s q t = q t:=by simp [Yaa]
theorem gfork_undef (w:Bool) (p:St→Prop) (s:St) (q:St→Prop) (t:St):Yaa (.val undef) w p s q t = q t:=rfl
theorem gfork_cond (c:Prop) [Decidable c] (p:St→Prop) (s:St) (q:St→Prop) (t:St):Yaa (.val (.bool (decide c))) true p s q t = ((c→p s)∧(¬ c→q t)):=by
 by_cases h:c <;> simp [Yaa,h]
theorem gfork_cond' (c:Prop) [Decidable c] (p:St→Prop) (s:St) (q:St→Prop) (t:St):Yaa (.val (.bool (decide c))) false p s q t = ((c→q t)∧(¬ c→p s)):=by
 by_cases h:c <;> simp [Yaa,h]
theorem gfork_congr {x x':AV} {w:Bool} {p:St→Prop} {s:St} {q:St→Prop} {t:St} (e:x = x'):Yaa x w p s q t = Yaa x' w p s q t:=by rw [e]
section
variable {P:Program} {T:Tab} {pu:Bool} {ρ:Operand→AV} {h:Hp} {k X:AV→Hp→Prop}
theorem awp_cond (c:Operand) (a b:AC) (Q:AX→St→Prop) (s:St):awp P T (.cond c a b) Q s = fork (ev s.tm c) (awp P T a Q) s (awp P T b Q) s:=rfl
def one (P:Program) (T:Tab) (pu:Bool) (op:Op) (dst:Option Nat) (K:St→Prop) (X:AV→Hp→Prop) (s:St):Prop:=aRes P T pu op (ev s.tm) s.h (fun x h'=>K ⟨put s.tm dst x,h'⟩) X
theorem aOps_nil (K:St→Prop) (X:List AV→AV→Hp→Prop) (s:St):aOps P T K X [] s = K s:=rfl
theorem aOps_plain (d:Option Nat) (op:Op) (pu:Bool) (os:List AO) (K:St→Prop) (X:List AV→AV→Hp→Prop) (s:St):aOps P T K X (⟨d,op,none,pu⟩ :: os) s = one P T pu op d (aOps P T K X os) (X s.tm) s:=rfl
theorem aOps_guard (d:Option Nat) (op:Op) (t:Nat) (want pu:Bool) (os:List AO) (K:St→Prop) (X:List AV→AV→Hp→Prop) (s:St):aOps P T K X (⟨d,op,some (some t,want),pu⟩ :: os) s =
  Yaa (s.tm.getD t .any) want (one P T pu op d (aOps P T K X os) (X s.tm)) s (aOps P T K X os) ⟨put s.tm d (.val undef),s.h⟩:=by
 simp only [aOps,aOp,gw,Yaa]
 cases s.tm.getD t .any <;> try rfl
 rename_i v
 cases v <;> try rfl
 rename_i b
 by_cases e:b = want <;> simp [e] <;> rfl
theorem aPlan_done (f:Nat→AO) (K:St→Prop) (X:AV→Hp→Prop) (s:St):Ypa P T f K X .done s = K s:=rfl
def planned (P:Program) (T:Tab) (o:AO) (K:St→Prop) (X:AV→Hp→Prop) (s:St):Prop:=aOp P T o K X s
theorem aPlan_op (os:List AO) (i:Nat) (p:Plan) (K:St→Prop) (X:AV→Hp→Prop) (s:St):Ypa P T (fun i=>os.getD i dfltO) K X (.op i p) s = planned P T (os.getD i dfltO) (Ypa P T (fun i=>os.getD i dfltO) K X p) X s:=rfl
theorem aPlan_both (f:Nat→AO) (p q:Plan) (K:St→Prop) (X:AV→Hp→Prop) (s:St):Ypa P T f K X (.both p q) s = (Ypa P T f K X p s∧Ypa P T f K X q s):=rfl
theorem planned_plain (d:Option Nat) (op:Op) (pu:Bool) (K:St→Prop) (X:AV→Hp→Prop) (s:St):planned P T ⟨d,op,none,pu⟩ K X s = one P T pu op d K X s:=rfl
theorem planned_guard (d:Option Nat) (op:Op) (t:Nat) (want pu:Bool) (K:St→Prop) (X:AV→Hp→Prop) (s:St):planned P T ⟨d,op,some (some t,want),pu⟩ K X s =
  Yaa (s.tm.getD t .any) want (one P T pu op d K X) s K ⟨put s.tm d (.val undef),s.h⟩:=by
 simp only [planned,aOp,gw,Yaa]
 cases s.tm.getD t .any <;> try rfl
 rename_i v
 cases v <;> try rfl
 rename_i b
 by_cases e:b = want <;> simp [e] <;> rfl
variable {d:Option Nat} {K:St→Prop} {tm:List AV}
def goes (K:St→Prop) (d:Option Nat) (tm:List AV) (h:Hp) (o:Option AV):Prop:=match o with | some x=>K ⟨put tm d x,h⟩ | none=>False
theorem goes_some (x:AV):goes K d tm h (some x) = K ⟨put tm d x,h⟩:=rfl
theorem one_move (x:Operand):one P T pu (.move x) d K X ⟨tm,h⟩ = K ⟨put tm d (ev tm x),h⟩:=rfl
theorem one_assign (x:Operand):one P T pu (.assign x) d K X ⟨tm,h⟩ = K ⟨put tm d (ev tm x),h⟩:=rfl
theorem one_pick (c x y:Operand):one P T pu (.pick c x y) d K X ⟨tm,h⟩ = fork (ev tm c) K ⟨put tm d (ev tm x),h⟩ K ⟨put tm d (ev tm y),h⟩:=by
 simp only [one,aRes,Wz,fork,onBool]
 cases ev tm c <;> try rfl
 rename_i v
 cases v <;> try rfl
 rename_i b
 cases b <;> rfl
def binT (o:Option TI) (op:BinOp) (x y:AV):Option AV:=match o with | some ti=>Y5a op ti x y | none=>none
theorem binT_some (ti:TI) (op:BinOp) (x y:AV):binT (some ti) op x y = Y5a op ti x y:=rfl
theorem abin2_val (op:BinOp) (ti:TI) (u:Value) (y:AV):Y5a op ti (.val u) y = abin op ti.kind (.val u) y:=rfl
theorem abin2_osl (op:BinOp) (ti:TI) (b sz off n:Nat) (y:AV):Y5a op ti (.osl b sz off n) y = abin op ti.kind (.osl b sz off n) y:=rfl
theorem abin2_isl (op:BinOp) (ti:TI) (sz:Nat) (r:List (List AV)) (y:AV):Y5a op ti (.isl sz r) y = abin op ti.kind (.isl sz r) y:=rfl
theorem abin2_optr (op:BinOp) (ti:TI) (b sz r c:Nat) (y:AV):Y5a op ti (.optr b sz r c) y = abin op ti.kind (.optr b sz r c) y:=rfl
theorem abin2_iptr (op:BinOp) (ti:TI) (r:List AV) (c:Nat) (y:AV):Y5a op ti (.iptr r c) y = abin op ti.kind (.iptr r c) y:=rfl
theorem abin2_fn (op:BinOp) (ti:TI) (f:Fn) (a b:List AV) (y:AV):Y5a op ti (.fn f a b) y = abin op ti.kind (.fn f a b) y:=rfl
theorem abin2_eql (n b:Nat) (z:List Value) (k:TK) (es:List (Nat×TK)) (xs ys:List AV):Y5a .eql ⟨n,b,z,k,some es⟩ (.agg xs) (.agg ys) = (aeqs es xs ys).map Zk:=rfl
theorem abin2_neq (n b:Nat) (z:List Value) (k:TK) (es:List (Nat×TK)) (xs ys:List AV):Y5a .neq ⟨n,b,z,k,some es⟩ (.agg xs) (.agg ys) = (aeqs es xs ys).map fun r=>Zk (!r):=rfl
def Wba:Operand→Bool
 | .const .nilIface=>true
 | _=>false
theorem aifc_none {op:BinOp} {x:AV} {y:Operand} (h:Wba y = false):aifc op x y = none:=by
 unfold aifc
 split <;> first | rfl | (simp [Wba] at h)
theorem K7a (op:BinOp) (t:Nat) (x y:Operand) (t':Nat) (hy:nilConst y = false) (hy2:Wba y = false):one P T pu (.binOp op t x y t') d K X ⟨tm,h⟩ = goes K d tm h (binT (T t) op (ev tm x) (ev tm y)):=by
 simp only [one]
 rw [Xmb (by simp [J3a,hy])]
 simp only [Wz,goes,binT,aifc_none hy2]
 cases T t <;> rfl
def binI (o:Option TI) (op:BinOp) (x:AV):Option AV:=match o with
 | some ti=>(match aifc op x (.const .nilIface) with
  | some z=>(match ti.kind with
   | .iface=>some z
   | _=>none)
  | none=>Y5a op ti x (.val .nilIface))
 | none=>none
theorem one_binIfc (op:BinOp) (t:Nat) (x:Operand) (t':Nat):one P T pu (.binOp op t x (.const .nilIface) t') d K X ⟨tm,h⟩ = goes K d tm h (binI (T t) op (ev tm x)):=by
 simp only [one]
 rw [Xmb (by simp [J3a,nilConst])]
 simp only [Wz,goes,binI]
 cases T t <;> rfl
section
variable {n1 n2:Nat} {zz:List Value} {qq:Option (List (Nat×TK))}
theorem binI_eql_nil:binI (some ⟨n1,n2,zz,.iface,qq⟩) .eql (.val .nilIface) = some (Zk true):=rfl
theorem binI_neq_nil:binI (some ⟨n1,n2,zz,.iface,qq⟩) .neq (.val .nilIface) = some (Zk false):=rfl
theorem binI_eql_ifc (t:Nat) (v:AV):binI (some ⟨n1,n2,zz,.iface,qq⟩) .eql (.ifc t v) = some (Zk false):=rfl
theorem binI_neq_ifc (t:Nat) (v:AV):binI (some ⟨n1,n2,zz,.iface,qq⟩) .neq (.ifc t v) = some (Zk true):=rfl
def eface (t:Nat) (b:Bool):AV:=if b then .ifc t .any else .val .nilIface
theorem binI_eql_eface (t:Nat) (b:Bool):binI (some ⟨n1,n2,zz,.iface,qq⟩) .eql (eface t b) = some (Zk (!b)):=by cases b <;> rfl
theorem binI_neq_eface (t:Nat) (b:Bool):binI (some ⟨n1,n2,zz,.iface,qq⟩) .neq (eface t b) = some (Zk b):=by cases b <;> rfl
def tasT (o:Option TI) (t:Nat) (x:AV):Option AV:=match o with | some ti=>atas ti t x | none=>none
theorem one_typeAssert (x:Operand) (t' t:Nat):one P T pu (.typeAssert x t' t true) d K X ⟨tm,h⟩ = goes K d tm h (tasT (T t) t (ev tm x)):=rfl
theorem tasT_same {fs:List (Nat×Nat)} (t:Nat) (v:AV):tasT (some ⟨n1,n2,zz,.struct fs,qq⟩) t (.ifc t v) = some (.tup [v,Zk true]):=by simp [tasT,atas]
def zAgg (zz:List Value):AV:=Y3 (.agg zz.toArray)
theorem zAgg_eq (zz:List Value):zAgg zz = if zz.all Value.oneCell' = true then .agg (zz.map .val) else .any:=by simp only [zAgg,Y3,List.all_toArray,List.toList_toArray]
theorem tasT_nil {fs:List (Nat×Nat)} (t:Nat):tasT (some ⟨n1,n2,zz,.struct fs,qq⟩) t (.val .nilIface) = some (.tup [zAgg zz,Zk false]):=rfl
theorem one_max (x y:Operand) (tys:Array Nat):one P T pu (.call ⟨.builtin .max,#[x,y],tys⟩) d K X ⟨tm,h⟩ = goes K d tm h (amax (ev tm x) (ev tm y)):=rfl
theorem one_min (x y:Operand) (tys:Array Nat):one P T pu (.call ⟨.builtin .min,#[x,y],tys⟩) d K X ⟨tm,h⟩ = goes K d tm h (amin (ev tm x) (ev tm y)):=rfl
theorem amax_int (k:IntKind) (a b:Int):amax (.val (.int k a)) (.val (.int k b)) = some (.val (.int k (if b > a then b else a))):=by simp [amax]
theorem amin_int (k:IntKind) (a b:Int):amin (.val (.int k a)) (.val (.int k b)) = some (.val (.int k (if b < a then b else a))):=by simp [amin]
end
theorem one_binTmp (op:BinOp) (t:Nat) (x:Operand) (u t':Nat):one P T pu (.binOp op t x (.tmp u) t') d K X ⟨tm,h⟩ = goes K d tm h (binT (T t) op (ev tm x) (ev tm (.tmp u))):=K7a _ _ _ _ _ rfl rfl
theorem one_binInt (op:BinOp) (t:Nat) (x:Operand) (kk:IntKind) (n:Int) (t':Nat):one P T pu (.binOp op t x (.const (.int kk n)) t') d K X ⟨tm,h⟩ = goes K d tm h (binT (T t) op (ev tm x) (.val (.int kk n))):=K7a _ _ _ _ _ rfl rfl
theorem one_binBool (op:BinOp) (t:Nat) (x:Operand) (b:Bool) (t':Nat):one P T pu (.binOp op t x (.const (.bool b)) t') d K X ⟨tm,h⟩ = goes K d tm h (binT (T t) op (ev tm x) (.val (.bool b))):=K7a _ _ _ _ _ rfl rfl
theorem one_binStr (op:BinOp) (t:Nat) (x:Operand) (b:ByteArray) (t':Nat):one P T pu (.binOp op t x (.const (.string b)) t') d K X ⟨tm,h⟩ = goes K d tm h (binT (T t) op (ev tm x) (.val (.string b))):=K7a _ _ _ _ _ rfl rfl
theorem one_binPtr (op:BinOp) (t:Nat) (x:Operand) (b:Option Addr) (t':Nat):one P T pu (.binOp op t x (.const (.pointer b)) t') d K X ⟨tm,h⟩ = goes K d tm h (binT (T t) op (ev tm x) (.val (.pointer b))):=K7a _ _ _ _ _ rfl rfl
theorem one_binFn (op:BinOp) (t:Nat) (x:Operand) (t':Nat):one P T pu (.binOp op t x (.const .nilFunc) t') d K X ⟨tm,h⟩ = goes K d tm h (binT (T t) op (ev tm x) (.val .nilFunc)):=K7a _ _ _ _ _ rfl rfl
def nilK (o:Option TI) (op:BinOp) (K:St→Prop) (d:Option Nat) (tm:List AV) (h:Hp) (x:AV):Prop:=match o with
 | some ti=>(match Y5a op ti x anil with
  | some z=>K ⟨put tm d z,h⟩
  | none=>(match ti.kind,op,x with
   | .sl _,.eql,.isl _ rows=>(rows = []→K ⟨put tm d (Zk true),h⟩)∧K ⟨put tm d (Zk false),h⟩
   | .sl _,.neq,.isl _ rows=>(rows = []→K ⟨put tm d (Zk false),h⟩)∧K ⟨put tm d (Zk true),h⟩
   | _,_,_=>False))
 | none=>False
theorem one_binNil (op:BinOp) (t:Nat) (x:Operand) (t':Nat):one P T pu (.binOp op t x (.const (.slice none 0 0)) t') d K X ⟨tm,h⟩ = nilK (T t) op K d tm h (ev tm x):=by
 have e0:ev tm (.const (.slice none 0 0)) = anil:=rfl
 simp only [one,aRes,Wz,nilK,nilCmp,e0,aifc_none (show Wba (.const (.slice none 0 0)) = false from rfl)]
 generalize ev tm x = q
 cases T t with
 | none=>rfl
 | some ti=>
  simp only
  cases Y5a op ti q anil with
  | some z=>rfl
  | none=>
   simp only
   cases ti.kind <;> try rfl
   cases op <;> try rfl
   all_goals (cases q <;> rfl)
variable {n1 n2:Nat} {zz:List Value} {ee:Nat} {qq:Option (List (Nat×TK))}
theorem nilK_eql_osl (b sz off n:Nat):nilK (some ⟨n1,n2,zz,.sl ee,qq⟩) .eql K d tm h (.osl b sz off n) = K ⟨put tm d (.val (.bool false)),h⟩:=rfl
theorem nilK_neq_osl (b sz off n:Nat):nilK (some ⟨n1,n2,zz,.sl ee,qq⟩) .neq K d tm h (.osl b sz off n) = K ⟨put tm d (.val (.bool true)),h⟩:=rfl
theorem nilK_eql_nil:nilK (some ⟨n1,n2,zz,.sl ee,qq⟩) .eql K d tm h (.val (.slice none 0 0)) = K ⟨put tm d (.val (.bool true)),h⟩:=rfl
theorem nilK_neq_nil:nilK (some ⟨n1,n2,zz,.sl ee,qq⟩) .neq K d tm h (.val (.slice none 0 0)) = K ⟨put tm d (.val (.bool false)),h⟩:=rfl
theorem nilK_congr {o o':Option TI} {op:BinOp} {x x':AV} (e:o = o') (e2:x = x'):nilK o op K d tm h x = nilK o' op K d tm h x':=by rw [e,e2]
def clearK (o:Option TI) (T:Tab) (K:St→Prop) (d:Option Nat) (tm:List AV) (h:Hp) (x:AV):Prop:=match o with
 | some ti=>(match ti.kind,x with
  | .sl e,.osl b sz off len=>(match T e,h b with
   | some ei,some o=>o.sz = sz∧ei.size = sz∧off+len≤o.rows.length∧K ⟨put tm d (.tup []),h.upd b ⟨sz,o.rows.take off++(List.replicate len (ei.zero.map .val)++o.rows.drop (off+len)),o.ty⟩⟩
   | _,_=>False)
  | .sl _,.val (.slice none 0 0)=>K ⟨put tm d (.tup []),h⟩
  | .sl _,.isl _ []=>K ⟨put tm d (.tup []),h⟩
  | _,_=>False)
 | none=>False
theorem one_clear (x:Operand) (t:Nat):one P T pu (.call ⟨.builtin .clear,#[x],#[t]⟩) d K X ⟨tm,h⟩ = clearK (T t) T K d tm h (ev tm x):=rfl
theorem clearK_congr {o o':Option TI} {x x':AV} (e:o = o') (e2:x = x'):clearK o T K d tm h x = clearK o' T K d tm h x':=by rw [e,e2]
theorem one_unOp (op:UnOp) (t:Nat) (x:Operand):one P T pu (.unOp op t x) d K X ⟨tm,h⟩ = goes K d tm h (aun op (ev tm x)):=rfl
theorem one_fieldAddr (t:Nat) (x:Operand) (f:Nat):one P T pu (.fieldAddr t x f) d K X ⟨tm,h⟩ = goes K d tm h (Kl T t (ev tm x) f):=rfl
theorem one_field (t:Nat) (x:Operand) (f:Nat):one P T pu (.field t x f) d K X ⟨tm,h⟩ = goes K d tm h (Wla T t (ev tm x) f):=rfl
theorem one_indexAddr (t:Nat) (x i:Operand):one P T pu (.indexAddr t x i) d K X ⟨tm,h⟩ = goes K d tm h (Wt T t (ev tm x) (ev tm i)):=rfl
def indexT (o:Option TI) (T:Tab) (x i:AV):Option AV:=match o,atInt i with
 | some ti,some n=>if 0≤n then
   match ti.kind,x with
   | .arr m e,.agg cs=>match T e with
    | some ei=>if n.toNat < m then apart ei cs (n.toNat * ei.size) else none
    | none=>none
   | .str,.val (.string s)=>match s[n.toNat]? with
    | some c=>some (Yab c.toNat)
    | none=>none
   | _,_=>none
  else none
 | _,_=>none
theorem indexT_str {n1 n2:Nat} {zz:List Value} {q:Option (List (Nat×TK))} (s:ByteArray) (k:IntKind) (n:Int):indexT (some ⟨n1,n2,zz,.str,q⟩) T (.val (.string s)) (.val (.int k n)) = if 0≤n then match s[n.toNat]? with
    | some c=>some (Yab c.toNat)
    | none=>none
   else none:=rfl
theorem We {n1 n2 m e:Nat} {zz:List Value} {q:Option (List (Nat×TK))} (cs:List AV) (k:IntKind) (n:Int):indexT (some ⟨n1,n2,zz,.arr m e,q⟩) T (.agg cs) (.val (.int k n)) = if 0≤n then match T e with
    | some ei=>if n.toNat < m then apart ei cs (n.toNat * ei.size) else none
    | none=>none
   else none:=rfl
theorem one_index (t:Nat) (x i:Operand):one P T pu (.index t x i) d K X ⟨tm,h⟩ = goes K d tm h (indexT (T t) T (ev tm x) (ev tm i)):=by
 simp only [one,aRes,Wz,goes,Xsb,indexT]
 cases T t <;> cases atInt (ev tm i) <;> rfl
theorem one_slice (t:Nat) (x:Operand) (lo hi:Option Operand):one P T pu (.slice t x lo hi none) d K X ⟨tm,h⟩ = goes K d tm h (Zea T t (ev tm x) (lo.map (ev tm)) (hi.map (ev tm))):=rfl
def textK (o:Option AV) (T:Tab) (s t:Nat) (K:St→Prop) (d:Option Nat) (tm:List AV) (h:Hp) (x:AV):Prop:=match o with
 | some z=>K ⟨put tm d z,h⟩
 | none=>Zhb T s t x h (fun y h'=>K ⟨put tm d y,h'⟩)
theorem textK_congr {o o':Option AV} {s t:Nat} {x x':AV} (e:o = o') (e2:x = x'):textK o T s t K d tm h x = textK o' T s t K d tm h x':=by rw [e,e2]
def convK (o:Option AV) (T:Tab) (s t:Nat) (K:St→Prop) (d:Option Nat) (tm:List AV) (h:Hp) (x:AV):Prop:=match o with
 | some z=>K ⟨put tm d z,h⟩
 | none=>textK (Ybb T s t x h) T s t K d tm h x
theorem convK_some (z:AV) (s t:Nat) (x:AV):convK (some z) T s t K d tm h x = K ⟨put tm d z,h⟩:=rfl
theorem convK_none (s t:Nat) (x:AV):convK none T s t K d tm h x = textK (Ybb T s t x h) T s t K d tm h x:=rfl
theorem textK_some (z:AV) (s t:Nat) (x:AV):textK (some z) T s t K d tm h x = K ⟨put tm d z,h⟩:=rfl
theorem textK_none (s t:Nat) (x:AV):textK none T s t K d tm h x = Zhb T s t x h (fun y h'=>K ⟨put tm d y,h'⟩):=rfl
theorem one_convert (s t:Nat) (x:Operand):one P T pu (.convert s t x) d K X ⟨tm,h⟩ = convK (aconv T s t (ev tm x)) T s t K d tm h (ev tm x):=by
 simp only [one,aRes,Wz,convK,goes,textK]
 cases aconv T s t (ev tm x) with
 | some z=>rfl
 | none=>cases Ybb T s t (ev tm x) h <;> rfl
theorem convK_congr {o o':Option AV} {s t:Nat} {x x':AV} (e:o = o') (e2:x = x'):convK o T s t K d tm h x = convK o' T s t K d tm h x':=by rw [e,e2]
def tupAt (x:AV) (i:Nat):Option AV:=match x with | .tup vs=>vs[i]? | _=>none
theorem tupAt_tup (vs:List AV) (i:Nat):tupAt (.tup vs) i = vs[i]?:=rfl
theorem one_extract (x:Operand) (i:Nat):one P T pu (.extract x i) d K X ⟨tm,h⟩ = goes K d tm h (tupAt (ev tm x) i):=by
 simp only [one,aRes,Wz,goes,tupAt]
 cases ev tm x <;> rfl
theorem one_makeFunc (f:Fn) (first caps:Array Operand):one P T pu (.makeFunc f first caps) d K X ⟨tm,h⟩ = K ⟨put tm d (.fn f (first.toList.map (ev tm)) (caps.toList.map (ev tm))),h⟩:=rfl
def buildT (o:Option TI) (T:Tab) (parts:List (Nat×AV)):Option AV:=match o with
 | some ti=>if Kda T ti.kind = true then match Z8b (Xpb T ti.kind) (ti.zero.map .val) parts with
   | some cs=>some (.agg cs)
   | none=>none
  else none
 | none=>none
theorem buildT_struct {n1 n2:Nat} {zz:List Value} {fs:List (Nat×Nat)} {q:Option (List (Nat×TK))} (parts:List (Nat×AV)):buildT (some ⟨n1,n2,zz,.struct fs,q⟩) T parts = if Kda T (.struct fs) = true then match Z8b (Xpb T (.struct fs)) (zz.map .val) parts with
   | some cs=>some (.agg cs)
   | none=>none
  else none:=rfl
theorem Je {n1 n2 n e:Nat} {zz:List Value} {q:Option (List (Nat×TK))} (parts:List (Nat×AV)):buildT (some ⟨n1,n2,zz,.arr n e,q⟩) T parts = if Kda T (.arr n e) = true then match Z8b (Xpb T (.arr n e)) (zz.map .val) parts with
   | some cs=>some (.agg cs)
   | none=>none
  else none:=rfl
theorem one_build (t:Nat) (ps:Array (Nat×Operand)):one P T pu (.build t ps) d K X ⟨tm,h⟩ = goes K d tm h (buildT (T t) T (ps.toList.map fun p=>(p.1,ev tm p.2))):=rfl
def chkNil:AV→Option AV
 | .iptr r c=>some (.iptr r c)
 | .optr b sz i c=>some (.optr b sz i c)
 | .val (.pointer (some a))=>some (.val (.pointer (some a)))
 | _=>none
theorem one_nilCheck (x:Operand):one P T pu (.nilCheck x) d K X ⟨tm,h⟩ = goes K d tm h (chkNil (ev tm x)):=by
 simp only [one,aRes,Wz,goes,chkNil]
 cases ev tm x <;> rfl
theorem one_len (x:Operand) (t:Nat):one P T pu (.call ⟨.builtin .len,#[x],#[t]⟩) d K X ⟨tm,h⟩ = goes K d tm h (alen T t (ev tm x)):=by
 simp only [one,aRes,Wz,goes]
 rfl
def ifcT (o:Option TI) (t:Nat) (x:AV):Option AV:=match o with | some ti=>(match ti.kind with | .iface=>none | _=>some (.ifc t x)) | none=>none
theorem one_makeInterface (t:Nat) (x:Operand):one P T pu (.makeInterface t x) d K X ⟨tm,h⟩ = goes K d tm h (ifcT (T t) t (ev tm x)):=by
 simp only [one,aRes,Wz,goes,ifcT]
 cases T t with
 | none=>rfl
 | some ti=>cases ti.kind <;> rfl
def news (K:St→Prop) (d:Option Nat) (tm:List AV) (h:Hp) (f:Nat→AV) (o:Ob):Prop:=∀ b,h b = none→K ⟨put tm d (f b),h.upd b o⟩
def allocT (o:Option TI) (t:Nat) (K:St→Prop) (d:Option Nat) (tm:List AV) (h:Hp):Prop:=match o with | some ti=>news K d tm h (fun b=>.optr b ti.size 0 0) ⟨ti.size,[ti.zero.map .val],some (t,ti.size)⟩ | none=>False
theorem allocT_some (ti:TI) (t:Nat):allocT (some ti) t K d tm h = news K d tm h (fun b=>.optr b ti.size 0 0) ⟨ti.size,[ti.zero.map .val],some (t,ti.size)⟩:=rfl
theorem one_alloc (t:Nat):one P T pu (.alloc t) d K X ⟨tm,h⟩ = allocT (T t) t K d tm h:=rfl
def boxT (o:Option TI) (t:Nat) (K:St→Prop) (d:Option Nat) (tm:List AV) (h:Hp) (x:AV):Prop:=match o with | some ti=>x.okCells = true∧x.cells.length = ti.size∧news K d tm h (fun b=>.optr b ti.size 0 0) ⟨ti.size,[x.cells],some (t,ti.size)⟩ | none=>False
theorem boxT_some (ti:TI) (t:Nat) (x:AV):boxT (some ti) t K d tm h x = (x.okCells = true∧x.cells.length = ti.size∧news K d tm h (fun b=>.optr b ti.size 0 0) ⟨ti.size,[x.cells],some (t,ti.size)⟩):=rfl
theorem one_box (t:Nat) (x:Operand):one P T pu (.box t x) d K X ⟨tm,h⟩ = boxT (T t) t K d tm h (ev tm x):=rfl
def rowAt (o:Option Ob) (sz i:Nat):Option (List AV):=match o with | some ob=>if ob.sz = sz then ob.rows[i]? else none | none=>none
theorem rowAt_some (ob:Ob) (sz i:Nat):rowAt (some ob) sz i = if ob.sz = sz then ob.rows[i]? else none:=rfl
def partT (o:Option TI) (r:Option (List AV)) (c:Nat):Option AV:=match o,r with | some ti,some r=>apart ti r c | _,_=>none
theorem partT_some (ti:TI) (r:List AV) (c:Nat):partT (some ti) (some r) c = apart ti r c:=rfl
def aload (o:Option TI) (h:Hp) (x:AV):Option AV:=match x with
 | .optr b sz i c=>partT o (rowAt (h b) sz i) c
 | .iptr r c=>partT o (some r) c
 | _=>none
theorem aload_optr (o:Option TI) (b sz i c:Nat):aload o h (.optr b sz i c) = partT o (rowAt (h b) sz i) c:=rfl
theorem aload_iptr (o:Option TI) (r:List AV) (c:Nat):aload o h (.iptr r c) = partT o (some r) c:=rfl
theorem one_load (t:Nat) (x:Operand):one P T false (.load t x) d K X ⟨tm,h⟩ = goes K d tm h (aload (T t) h (ev tm x)):=by
 simp only [one,aRes,goes,Bool.false_eq_true,if_false]
 split
 ·rename_i b sz i c e
  simp only [e,aload,partT,rowAt]
  cases T t with
  | none=>simp
  | some ti=>
   cases h b with
   | none=>simp
   | some o=>
    simp only
    cases e2:o.rows[i]? with
    | none=>by_cases e3:o.sz = sz <;> simp [e3,e2]
    | some r=>
     by_cases e3:o.sz = sz
     ·simp only [e3,e2,true_and,if_true]; cases apart ti r c <;> rfl
     ·simp [e3]
 ·rename_i hno
  cases e:ev tm x with
  | optr b sz i c=>exact absurd e (hno b sz i c)
  | iptr r c=>simp only [aloadI,aload,partT]; cases T t <;> rfl
  | _=>simp [aloadI,aload]
def pload (o:Option TI) (x:AV):Option AV:=match x with
 | .iptr r c=>partT o (some r) c
 | _=>none
theorem pload_iptr (o:Option TI) (r:List AV) (c:Nat):pload o (.iptr r c) = partT o (some r) c:=rfl
theorem one_pload (t:Nat) (x:Operand):one P T true (.load t x) d K X ⟨tm,h⟩ = goes K d tm h (pload (T t) (ev tm x)):=by
 simp only [one,aRes,goes,if_true]
 cases e:ev tm x with
 | optr b sz i c=>simp [pload]
 | iptr r c=>simp only [aloadI,pload,partT]; cases T t <;> rfl
 | _=>simp [aloadI,pload]
def storeT (o:Option TI) (K:St→Prop) (d:Option Nat) (tm:List AV) (h:Hp) (ob:Option Ob) (b sz i c:Nat) (x:AV):Prop:=match o,ob with
 | some ti,some ob=>match ob.rows[i]? with
  | some r=>ob.sz = sz∧x.okCells = true∧x.cells.length = ti.size∧c+ti.size≤r.length∧K ⟨put tm d .any,h.upd b ⟨sz,ob.rows.set i (r.take c++x.cells++r.drop (c+ti.size)),ob.ty⟩⟩
  | none=>False
 | _,_=>False
def storeP (o:Option TI) (K:St→Prop) (d:Option Nat) (tm:List AV) (h:Hp) (p x:AV):Prop:=match p with
 | .optr b sz i c=>storeT o K d tm h (h b) b sz i c x
 | _=>False
def storeR (K:St→Prop) (d:Option Nat) (tm:List AV) (h:Hp) (ob:Ob) (r:Option (List AV)) (ti:TI) (b sz i c:Nat) (x:AV):Prop:=match r with
 | some r=>ob.sz = sz∧x.okCells = true∧x.cells.length = ti.size∧c+ti.size≤r.length∧K ⟨put tm d .any,h.upd b ⟨sz,ob.rows.set i (r.take c++x.cells++r.drop (c+ti.size)),ob.ty⟩⟩
 | none=>False
theorem storeT_some (ti:TI) (ob:Ob) (b sz i c:Nat) (x:AV):storeT (some ti) K d tm h (some ob) b sz i c x = storeR K d tm h ob (ob.rows[i]?) ti b sz i c x:=by
 simp only [storeT,storeR]
theorem storeR_some (ti:TI) (ob:Ob) (r:List AV) (b sz i c:Nat) (x:AV):storeR K d tm h ob (some r) ti b sz i c x =
  (ob.sz = sz∧x.okCells = true∧x.cells.length = ti.size∧c+ti.size≤r.length∧K ⟨put tm d .any,h.upd b ⟨sz,ob.rows.set i (r.take c++x.cells++r.drop (c+ti.size)),ob.ty⟩⟩):=rfl
theorem one_store (t:Nat) (p x:Operand):one P T pu (.store t p x) d K X ⟨tm,h⟩ = storeP (T t) K d tm h (ev tm p) (ev tm x):=by
 simp only [one,aRes,storeP,storeT]
 cases T t with
 | none=>cases ev tm p <;> rfl
 | some ti=>
  cases ev tm p <;> try rfl
  rename_i b sz i c
  simp only
  cases h b <;> rfl
def callF (P:Program) (pu:Bool) (K:St→Prop) (X:AV→Hp→Prop) (d:Option Nat) (tm:List AV) (h:Hp) (f:AV) (args:List AV):Prop:=match f with
 | .fn (.func n) first caps=>
  if pu = true then ∃ x,Kya P n (first++args++caps) x∧K ⟨put tm d x,h⟩
  else Zo P n (first++args++caps) h fun e h'=>match e with
   | .ret x=>K ⟨put tm d x,h'⟩
   | .pan x=>X x h'
 | .yld l gb=>if pu = true then False else AYield P gb l args h fun x h'=>K ⟨put tm d x,h'⟩
 | _=>False
def yields (P:Program) (K:St→Prop) (d:Option Nat) (tm:List AV) (h:Hp) (gb:Gh) (l:Nat) (args:List AV):Prop:=AYield P gb l args h fun x h'=>K ⟨put tm d x,h'⟩
def pures (P:Program) (K:St→Prop) (d:Option Nat) (tm:List AV) (h:Hp) (n:Nat) (args:List AV):Prop:=∃ x,Kya P n args x∧K ⟨put tm d x,h⟩
theorem K4a {n:Nat} {args:List AV} (x:AV) (hp:Kya P n args x) (hk:K ⟨put tm d x,h⟩):pures P K d tm h n args:=⟨x,hp,hk⟩
def backK (K:St→Prop) (X:AV→Hp→Prop) (d:Option Nat) (tm:List AV):AE→Hp→Prop
 | .ret x,h'=>K ⟨put tm d x,h'⟩
 | .pan x,h'=>X x h'
def calls (P:Program) (K:St→Prop) (X:AV→Hp→Prop) (d:Option Nat) (tm:List AV) (h:Hp) (n:Nat) (args:List AV):Prop:=Zo P n args h (backK K X d tm)
theorem Z1 {n:Nat} {args:List AV} {Q:AE→Hp→Prop} (hc:Zo P n args h Q) (hk:∀ e h',Q e h'→backK K X d tm e h'):calls P K X d tm h n args:=hc.mono hk
theorem callF_pure (n:Nat) (first caps args:List AV):callF P true K X d tm h (.fn (.func n) first caps) args = pures P K d tm h n (first++args++caps):=rfl
theorem callF_call (n:Nat) (first caps args:List AV):callF P false K X d tm h (.fn (.func n) first caps) args = calls P K X d tm h n (first++args++caps):=by
 simp only [callF,calls,Bool.false_eq_true,if_false]
 congr 1
 funext e h'
 cases e <;> rfl
theorem callF_yld (l:Nat) (gb:Gh) (args:List AV):callF P false K X d tm h (.yld l gb) args = yields P K d tm h gb l args:=rfl
theorem one_call (f:Operand) (args:Array Operand) (tys:Array Nat):one P T pu (.call ⟨.value f,args,tys⟩) d K X ⟨tm,h⟩ = callF P pu K X d tm h (ev tm f) (args.toList.map (ev tm)):=by
 unfold one callF
 simp only [aRes]
 cases ev tm f <;> rfl
def appT (o1 o2:Option TI) (T:Tab) (K:St→Prop) (d:Option Nat) (tm:List AV) (h:Hp) (s x:AV):Prop:=match o1,o2 with
 | some ti,some tix=>match ti.kind with
  | .sl e=>match T e with
   | some ei=>match aDst ei.size s h,aSrc ei.size tix.kind x h with
    | some (rs,ob),some xs=>
     (rs.length+xs.length) * ei.bytes≤140737488355328∧0 < ei.size∧0 < ei.bytes ∧
     match ob with
     | none=>(xs = []→K ⟨put tm d anil,h⟩)∧(xs≠[]→news K d tm h (fun b=>.osl b ei.size 0 xs.length) ⟨ei.size,xs,some (e,0)⟩)
     | some (b0,ty)=>news K d tm (h.del b0) (fun b=>.osl b ei.size 0 (rs.length+xs.length)) ⟨ei.size,rs++xs,Kn e ty⟩
    | _,_=>False
   | none=>False
  | _=>False
 | _,_=>False
theorem one_append (s x:Operand) (t tx:Nat):one P T pu (.call ⟨.builtin .append,#[s,x],#[t,tx]⟩) d K X ⟨tm,h⟩ = appT (T t) (T tx) T K d tm h (ev tm s) (ev tm x):=rfl
def appE (e:Nat) (ei:Option TI) (kx:TK) (K:St→Prop) (d:Option Nat) (tm:List AV) (h:Hp) (s x:AV):Prop:=match ei with
 | some ei=>match aDst ei.size s h,aSrc ei.size kx x h with
  | some (rs,ob),some xs=>
   (rs.length+xs.length) * ei.bytes≤140737488355328∧0 < ei.size∧0 < ei.bytes ∧
   match ob with
   | none=>(xs = []→K ⟨put tm d anil,h⟩)∧(xs≠[]→news K d tm h (fun b=>.osl b ei.size 0 xs.length) ⟨ei.size,xs,some (e,0)⟩)
   | some (b0,ty)=>news K d tm (h.del b0) (fun b=>.osl b ei.size 0 (rs.length+xs.length)) ⟨ei.size,rs++xs,Kn e ty⟩
  | _,_=>False
 | none=>False
theorem appT_some (t1 b1:Nat) (z1:List Value) (e:Nat) (q1:Option (List (Nat×TK))) (tix:TI) (s x:AV):appT (some ⟨t1,b1,z1,.sl e,q1⟩) (some tix) T K d tm h s x = appE e (T e) tix.kind K d tm h s x:=rfl
def appR (e:Nat) (ei:TI) (K:St→Prop) (d:Option Nat) (tm:List AV) (h:Hp) (o:Option (List (List AV)×Option (Nat×Option (Nat×Nat)))) (xs:Option (List (List AV))):Prop:=match o,xs with
 | some (rs,ob),some xs=>
  (rs.length+xs.length) * ei.bytes≤140737488355328∧0 < ei.size∧0 < ei.bytes ∧
  match ob with
  | none=>(xs = []→K ⟨put tm d anil,h⟩)∧(xs≠[]→news K d tm h (fun b=>.osl b ei.size 0 xs.length) ⟨ei.size,xs,some (e,0)⟩)
  | some (b0,ty)=>news K d tm (h.del b0) (fun b=>.osl b ei.size 0 (rs.length+xs.length)) ⟨ei.size,rs++xs,Kn e ty⟩
 | _,_=>False
theorem appE_some (e:Nat) (ei:TI) (kx:TK) (s x:AV):appE e (some ei) kx K d tm h s x = appR e ei K d tm h (aDst ei.size s h) (aSrc ei.size kx x h):=rfl
theorem appR_nil (e:Nat) (ei:TI) (xs:List (List AV)):appR e ei K d tm h (some ([],none)) (some xs) = (xs.length * ei.bytes≤140737488355328∧0 < ei.size∧0 < ei.bytes∧(xs = []→K ⟨put tm d anil,h⟩)∧(xs≠[]→news K d tm h (fun b=>.osl b ei.size 0 xs.length) ⟨ei.size,xs,some (e,0)⟩)):=by
 simp only [appR,List.length_nil,Nat.zero_add]
theorem appR_one (e:Nat) (ei:TI) (x:List AV):appR e ei K d tm h (some ([],none)) (some [x]) = (ei.bytes≤140737488355328∧0 < ei.size∧0 < ei.bytes∧news K d tm h (fun b=>.osl b ei.size 0 1) ⟨ei.size,[x],some (e,0)⟩):=by
 simp [appR]
theorem appR_some (e:Nat) (ei:TI) (rs:List (List AV)) (b0:Nat) (ty:Option (Nat×Nat)) (xs:List (List AV)):appR e ei K d tm h (some (rs,some (b0,ty))) (some xs) =
  ((rs.length+xs.length) * ei.bytes≤140737488355328∧0 < ei.size∧0 < ei.bytes∧news K d tm (h.del b0) (fun b=>.osl b ei.size 0 (rs.length+xs.length)) ⟨ei.size,rs++xs,Kn e ty⟩):=rfl
def litT (e:Nat) (o:Option TI) (K:St→Prop) (d:Option Nat) (tm:List AV) (h:Hp) (len:Nat) (ps:List (Nat×AV)):Prop:=match o with
 | some ei=>0 < ei.size∧len * ei.size≤16777216∧onSome (Jqa ei.size (List.replicate len (ei.zero.map .val)) ps) fun rows=>news K d tm h (fun b=>.osl b ei.size 0 len) ⟨ei.size,rows,some (e,0)⟩
 | none=>False
theorem litT_some (e:Nat) (ei:TI) (len:Nat) (ps:List (Nat×AV)):litT e (some ei) K d tm h len ps = (0 < ei.size∧len * ei.size≤16777216∧onSome (Jqa ei.size (List.replicate len (ei.zero.map .val)) ps) fun rows=>news K d tm h (fun b=>.osl b ei.size 0 len) ⟨ei.size,rows,some (e,0)⟩):=rfl
def litK (o:Option TI) (T:Tab) (K:St→Prop) (d:Option Nat) (tm:List AV) (h:Hp) (len:Nat) (ps:List (Nat×AV)):Prop:=match o with
 | some ti=>match ti.kind with
  | .sl e=>litT e (T e) K d tm h len ps
  | _=>False
 | none=>False
theorem litK_some (t1 b1:Nat) (z1:List Value) (e len:Nat) (q1:Option (List (Nat×TK))) (ps:List (Nat×AV)):litK (some ⟨t1,b1,z1,.sl e,q1⟩) T K d tm h len ps = litT e (T e) K d tm h len ps:=rfl
theorem Jxa (t len:Nat) (ps:Array (Nat×Operand)):one P T pu (.buildSlice t len ps) d K X ⟨tm,h⟩ = litK (T t) T K d tm h len (ps.toList.map fun p=>(p.1,ev tm p.2)):=by
 simp only [one,aRes,litK]
 cases T t with
 | none=>rfl
 | some ti=>
  simp only
  cases ti.kind <;> simp only
  rename_i e
  cases T e with
  | none=>rfl
  | some ei=>
   simp only [litT,onSome,news]
   cases Jqa ei.size (List.replicate len (List.map AV.val ei.zero)) (List.map (fun p=>(p.fst,ev tm p.snd)) ps.toList) <;> rfl
def makT (o:Option TI) (T:Tab) (K:St→Prop) (d:Option Nat) (tm:List AV) (h:Hp) (l c:AV):Prop:=match o,l,c with
 | some ti,.val (.int _ m),.val (.int _ n)=>match ti.kind with
  | .sl e=>match T e with
   | some ei=>0 < ei.size∧0≤m∧m≤n∧(ei.bytes:Int) * n≤281474976710656∧n≤9223372036854775807∧news K d tm h (fun b=>.osl b ei.size 0 m.toNat) ⟨ei.size,List.replicate m.toNat (ei.zero.map .val),some (e,0)⟩
   | none=>False
  | _=>False
 | _,_,_=>False
def makE (e:Nat) (o:Option TI) (K:St→Prop) (d:Option Nat) (tm:List AV) (h:Hp) (m n:Int):Prop:=match o with
 | some ei=>0 < ei.size∧0≤m∧m≤n∧(ei.bytes:Int) * n≤281474976710656∧n≤9223372036854775807∧news K d tm h (fun b=>.osl b ei.size 0 m.toNat) ⟨ei.size,List.replicate m.toNat (ei.zero.map .val),some (e,0)⟩
 | none=>False
theorem makE_some (e:Nat) (ei:TI) (m n:Int):makE e (some ei) K d tm h m n = (0 < ei.size∧0≤m∧m≤n∧(ei.bytes:Int) * n≤281474976710656∧n≤9223372036854775807∧news K d tm h (fun b=>.osl b ei.size 0 m.toNat) ⟨ei.size,List.replicate m.toNat (ei.zero.map .val),some (e,0)⟩):=rfl
theorem makT_some (t1 b1:Nat) (z1:List Value) (e:Nat) (q1:Option (List (Nat×TK))) (k1 k2:IntKind) (m n:Int):makT (some ⟨t1,b1,z1,.sl e,q1⟩) T K d tm h (.val (.int k1 m)) (.val (.int k2 n)) = makE e (T e) K d tm h m n:=rfl
theorem one_makeSlice (t:Nat) (l c:Operand):one P T pu (.makeSlice t l c) d K X ⟨tm,h⟩ = makT (T t) T K d tm h (ev tm l) (ev tm c):=rfl
def panT (X:AV→Hp→Prop) (h:Hp) (x:AV):Prop:=match x with | .ifc t y=>X (.ifc t y) h | _=>False
theorem panT_ifc (t:Nat) (y:AV):panT X h (.ifc t y) = X (.ifc t y) h:=rfl
theorem one_panic (x:Operand):one P T pu (.panic x) d K X ⟨tm,h⟩ = panT X h (ev tm x):=rfl
variable {kd:IntKind} {tk:TK} {a b:Int}
theorem abin_add:abin .add tk (.val (.int kd a)) (.val (.int kd b)) = some (.val (.int kd (kd.wrap (a+b)))):=by simp [abin]
theorem abin_sub:abin .sub tk (.val (.int kd a)) (.val (.int kd b)) = some (.val (.int kd (kd.wrap (a - b)))):=by simp [abin]
theorem abin_mul:abin .mul tk (.val (.int kd a)) (.val (.int kd b)) = some (.val (.int kd (kd.wrap (a * b)))):=by simp [abin]
theorem abin_quo:abin .quo tk (.val (.int kd a)) (.val (.int kd b)) = if b = 0 then none else some (.val (.int kd (kd.wrap (a.tdiv b)))):=by simp [abin]
theorem abin_rem:abin .rem tk (.val (.int kd a)) (.val (.int kd b)) = if b = 0 then none else some (.val (.int kd (a.tmod b))):=by simp [abin]
theorem abin_eql:abin .eql tk (.val (.int kd a)) (.val (.int kd b)) = some (.val (.bool (decide (a = b)))):=by simp [abin,Zk]; rfl
theorem abin_neq:abin .neq tk (.val (.int kd a)) (.val (.int kd b)) = some (.val (.bool (decide (a≠b)))):=by
 simp [abin,Zk]; by_cases h:a = b <;> simp [h]
theorem abin_lss:abin .lss tk (.val (.int kd a)) (.val (.int kd b)) = some (.val (.bool (decide (a < b)))):=by simp [abin,Zk]
theorem abin_leq:abin .leq tk (.val (.int kd a)) (.val (.int kd b)) = some (.val (.bool (decide (a≤b)))):=by simp [abin,Zk]
theorem abin_gtr:abin .gtr tk (.val (.int kd a)) (.val (.int kd b)) = some (.val (.bool (decide (b < a)))):=by simp [abin,Zk]
theorem abin_geq:abin .geq tk (.val (.int kd a)) (.val (.int kd b)) = some (.val (.bool (decide (b≤a)))):=by simp [abin,Zk]
def ishl (kd:IntKind) (a b:Int):Int:=kd.wrap (a * 2 ^ (min b.toNat kd.bits))
def ishr (kd:IntKind) (a b:Int):Int:=a.fdiv (2 ^ (min b.toNat kd.bits))
def iand (kd:IntKind) (a b:Int):Int:=kd.wrap (BitVec.ofInt kd.bits a &&& BitVec.ofInt kd.bits b).toNat
def ior (kd:IntKind) (a b:Int):Int:=kd.wrap (BitVec.ofInt kd.bits a ||| BitVec.ofInt kd.bits b).toNat
def ixor (kd:IntKind) (a b:Int):Int:=kd.wrap (BitVec.ofInt kd.bits a ^^^ BitVec.ofInt kd.bits b).toNat
def iandn (kd:IntKind) (a b:Int):Int:=kd.wrap (BitVec.ofInt kd.bits a &&& ~~~ BitVec.ofInt kd.bits b).toNat
theorem abin_shl {k2:IntKind}:abin .shl tk (.val (.int kd a)) (.val (.int k2 b)) = if 0≤b then some (.val (.int kd (ishl kd a b))) else none:=rfl
theorem abin_shr {k2:IntKind}:abin .shr tk (.val (.int kd a)) (.val (.int k2 b)) = if 0≤b then some (.val (.int kd (ishr kd a b))) else none:=rfl
theorem abin_and:abin .and tk (.val (.int kd a)) (.val (.int kd b)) = some (.val (.int kd (iand kd a b))):=by simp [abin,iand]
theorem abin_or:abin .or tk (.val (.int kd a)) (.val (.int kd b)) = some (.val (.int kd (ior kd a b))):=by simp [abin,ior]
theorem abin_xor:abin .xor tk (.val (.int kd a)) (.val (.int kd b)) = some (.val (.int kd (ixor kd a b))):=by simp [abin,ixor]
theorem abin_andNot:abin .andNot tk (.val (.int kd a)) (.val (.int kd b)) = some (.val (.int kd (iandn kd a b))):=by simp [abin,iandn]
variable {s1 s2:ByteArray}
theorem abin_sadd:abin .add tk (.val (.string s1)) (.val (.string s2)) = if s1.size+s2.size≤9223372036854775807 then some (.val (.string (s1++s2))) else none:=rfl
theorem Vxa (l m:List UInt8):(l == m) = decide (l = m):=by
 by_cases h:l = m <;> simp [h]
theorem bytes_eq_iff (s t:ByteArray):s.toList = t.toList↔s = t:=by
 constructor
 ·intro h
  rw [ByteArray.toList_eq,ByteArray.toList_eq] at h
  cases s; cases t
  simp only at h
  congr 1
  exact Array.ext' h
 ·rintro rfl; rfl
theorem abin_seql:abin .eql tk (.val (.string s1)) (.val (.string s2)) = some (.val (.bool (decide (s1 = s2)))):=by
 simp only [abin,Zk,Vxa]; congr 3; simp [bytes_eq_iff]
theorem abin_sneq:abin .neq tk (.val (.string s1)) (.val (.string s2)) = some (.val (.bool (decide (s1≠s2)))):=by
 simp only [abin,Zk,Vxa]; congr 2; by_cases h:s1 = s2 <;> simp [bytes_eq_iff,h]
theorem abin_beql {p q:Bool}:abin .eql .bool (.val (.bool p)) (.val (.bool q)) = some (.val (.bool (p == q))):=rfl
theorem abin_bneq {p q:Bool}:abin .neq .bool (.val (.bool p)) (.val (.bool q)) = some (.val (.bool (!(p == q)))):=rfl
theorem aun_not {p:Bool}:aun .not (.val (.bool p)) = some (.val (.bool (!p))):=rfl
theorem aun_neg:aun .neg (.val (.int kd a)) = some (.val (.int kd (kd.wrap (0 - a)))):=rfl
theorem not_decide (p:Prop) [Decidable p]:(!decide p) = decide (¬ p):=by by_cases h:p <;> simp [h]
theorem awp_congr {ac:AC} {Q:AX→St→Prop} {s s':St} (h:s = s'):awp P T ac Q s = awp P T ac Q s':=by rw [h]
theorem aOps_congr {os:List AO} {K:St→Prop} {X:List AV→AV→Hp→Prop} {s s':St} (h:s = s'):aOps P T K X os s = aOps P T K X os s':=by rw [h]
theorem aPlan_congr {f:Nat→AO} {p:Plan} {K:St→Prop} {X:AV→Hp→Prop} {s s':St} (h:s = s'):Ypa P T f K X p s = Ypa P T f K X p s':=by rw [h]
theorem planned_congr {o o':AO} {K:St→Prop} {X:AV→Hp→Prop} {s s':St} (ho:o = o') (h:s = s'):planned P T o K X s = planned P T o' K X s':=by rw [h,ho]
theorem one_congr {op:Op} {K:St→Prop} {X:AV→Hp→Prop} {s s':St} (h:s = s'):one P T pu op d K X s = one P T pu op d K X s':=by rw [h]
theorem athen_congr {n:St→Prop} {Q:AX→St→Prop} {e:AX} {s s':St} (h:s = s'):Y3a n Q e s = Y3a n Q e s':=by rw [h]
theorem ablock_congr {i:Nat} {Q:AX→St→Prop} {e:AX} {s s':St} (h:s = s'):W3a i Q e s = W3a i Q e s':=by rw [h]
theorem retQ_congr {rs:List ResultVar} {Q:AE→Hp→Prop} {e:AX} {s s':St} (h:s = s'):retQ T rs Q e s = retQ T rs Q e s':=by rw [h]
theorem goes_congr {o o':Option AV} (h':o = o'):goes K d tm h o = goes K d tm h o':=by rw [h']
theorem news_congr {f f':Nat→AV} {o o':Ob} (hf:f = f') (ho:o = o'):news K d tm h f o = news K d tm h f' o':=by rw [hf,ho]
theorem callF_congr {f f':AV} {args args':List AV} (hf:f = f') (ha:args = args'):callF P pu K X d tm h f args = callF P pu K X d tm h f' args':=by rw [hf,ha]
theorem pures_congr {n:Nat} {args args':List AV} (ha:args = args'):pures P K d tm h n args = pures P K d tm h n args':=by rw [ha]
theorem calls_congr {n:Nat} {args args':List AV} (ha:args = args'):calls P K X d tm h n args = calls P K X d tm h n args':=by rw [ha]
theorem allocT_congr {o o':Option TI} {t:Nat} (e:o = o'):allocT o t K d tm h = allocT o' t K d tm h:=by rw [e]
theorem boxT_congr {o o':Option TI} {t:Nat} {x x':AV} (e:o = o') (ex:x = x'):boxT o t K d tm h x = boxT o' t K d tm h x':=by rw [e,ex]
theorem storeP_congr {o o':Option TI} {p p' x x':AV} (e:o = o') (ep:p = p') (ex:x = x'):storeP o K d tm h p x = storeP o' K d tm h p' x':=by rw [e,ep,ex]
theorem storeT_congr {o o':Option TI} {ob ob':Option Ob} {b sz i c:Nat} {x:AV} (e:o = o') (ep:ob = ob'):storeT o K d tm h ob b sz i c x = storeT o' K d tm h ob' b sz i c x:=by rw [e,ep]
theorem storeR_congr {ti:TI} {ob:Ob} {r r':Option (List AV)} {b sz i c:Nat} {x:AV} (e:r = r'):storeR K d tm h ob r ti b sz i c x = storeR K d tm h ob r' ti b sz i c x:=by rw [e]
theorem appT_congr {o o' q q':Option TI} {s s' x x':AV} (e:o = o') (e2:q = q') (e3:s = s') (e4:x = x'):appT o q T K d tm h s x = appT o' q' T K d tm h s' x':=by rw [e,e2,e3,e4]
theorem appE_congr {e0:Nat} {o o':Option TI} {kx:TK} {s x:AV} (e:o = o'):appE e0 o kx K d tm h s x = appE e0 o' kx K d tm h s x:=by rw [e]
theorem appR_congr {e0:Nat} {ei:TI} {o o':Option (List (List AV)×Option (Nat×Option (Nat×Nat)))} {q q':Option (List (List AV))} (e:o = o') (e2:q = q'):appR e0 ei K d tm h o q = appR e0 ei K d tm h o' q':=by rw [e,e2]
theorem litT_congr {e0:Nat} {o o':Option TI} {len:Nat} {ps ps':List (Nat×AV)} (e:o = o') (e2:ps = ps'):litT e0 o K d tm h len ps = litT e0 o' K d tm h len ps':=by rw [e,e2]
theorem litK_congr {o o':Option TI} {len:Nat} {ps ps':List (Nat×AV)} (e:o = o') (e2:ps = ps'):litK o T K d tm h len ps = litK o' T K d tm h len ps':=by rw [e,e2]
theorem makT_congr {o o':Option TI} {l l' c c':AV} (e:o = o') (e2:l = l') (e3:c = c'):makT o T K d tm h l c = makT o' T K d tm h l' c':=by rw [e,e2,e3]
theorem makE_congr {e0:Nat} {o o':Option TI} {m n:Int} (e:o = o'):makE e0 o K d tm h m n = makE e0 o' K d tm h m n:=by rw [e]
theorem onSome_congr {α:Type} {o o':Option α} {f:α→Prop} (e:o = o'):onSome o f = onSome o' f:=by rw [e]
end
theorem cells_val (v:Value):AV.cells (.val v) = [.val v]:=rfl
theorem cells_agg (l:List AV):AV.cells (.agg l) = l:=rfl
theorem okc_val (v:Value):AV.okCells (.val v) = v.oneCell':=rfl
theorem okc_agg (l:List AV):AV.okCells (.agg l) = true:=rfl
theorem cells_isl (s:Nat) (r:List (List AV)):AV.cells (.isl s r) = [.isl s r]:=rfl
theorem okc_isl (s:Nat) (r:List (List AV)):AV.okCells (.isl s r) = true:=rfl
theorem cells_osl (b s o n:Nat):AV.cells (.osl b s o n) = [.osl b s o n]:=rfl
theorem okc_osl (b s o n:Nat):AV.okCells (.osl b s o n) = true:=rfl
theorem cells_iptr (r:List AV) (c:Nat):AV.cells (.iptr r c) = [.iptr r c]:=rfl
theorem okc_iptr (r:List AV) (c:Nat):AV.okCells (.iptr r c) = true:=rfl
theorem cells_optr (b s r c:Nat):AV.cells (.optr b s r c) = [.optr b s r c]:=rfl
theorem okc_optr (b s r c:Nat):AV.okCells (.optr b s r c) = true:=rfl
theorem cells_fn (f:Fn) (x y:List AV):AV.cells (.fn f x y) = [.fn f x y]:=rfl
theorem okc_fn (f:Fn) (x y:List AV):AV.okCells (.fn f x y) = true:=rfl
theorem cells_ifc (t:TypeId) (x:AV):AV.cells (.ifc t x) = [.ifc t x]:=rfl
theorem okc_ifc (t:TypeId) (x:AV):AV.okCells (.ifc t x) = true:=rfl
attribute [congr] gfork_congr awp_congr aOps_congr aPlan_congr planned_congr one_congr athen_congr ablock_congr retQ_congr goes_congr convK_congr textK_congr news_congr callF_congr pures_congr calls_congr allocT_congr boxT_congr storeP_congr storeT_congr storeR_congr appT_congr appE_congr appR_congr litT_congr litK_congr makT_congr makE_congr fork_congr onSome_congr nilK_congr clearK_congr
attribute [push_cast] awp_skip awp_reg awp_draw awp_seq awp_cond awp_block awp_exit awp_ret awp_scope athen_norm athen_exit athen_ret athen_pan ablock_norm ablock_exit ablock_ret ablock_pan onSome_some fork_true fork_false aOps_nil aOps_plain aOps_guard gfork_tt gfork_ff gfork_ft gfork_tf gfork_undef aPlan_done aPlan_op aPlan_both planned_plain planned_guard goes_some one_move one_assign one_pick one_binTmp one_binInt one_binBool one_binStr one_binPtr one_binFn one_binNil nilK_eql_osl nilK_neq_osl nilK_eql_nil nilK_neq_nil one_clear binT_some abin2_val abin2_osl abin2_isl abin2_optr abin2_iptr abin2_fn abin2_eql abin2_neq aeqs one_unOp one_fieldAddr one_field one_indexAddr one_index one_slice one_convert convK_some convK_none one_extract tupAt_tup one_makeFunc one_build one_nilCheck one_len one_makeInterface one_binIfc binI_eql_nil binI_neq_nil binI_eql_ifc binI_neq_ifc binI_eql_eface binI_neq_eface one_typeAssert tasT_same tasT_nil zAgg_eq one_max one_min amax_int amin_int one_alloc allocT_some one_box boxT_some one_load one_pload pload_iptr aload_optr aload_iptr partT_some rowAt_some one_store storeT_some storeR_some one_call callF_pure callF_call callF_yld one_append appT_some appE_some appR_some appR_one appR_nil Jxa litK_some litT_some one_makeSlice makT_some makE_some one_panic panT_ifc chkNil ifcT abin_add abin_sub abin_mul abin_quo abin_rem abin_eql abin_neq abin_lss abin_leq abin_gtr abin_geq abin_shl abin_shr abin_and abin_or abin_xor abin_andNot abin_sadd abin_seql abin_sneq abin_beql abin_bneq aun_not aun_neg put ev Y3 apart afield Kl Wla atInt Wt indexT_str Vy aconv Xpb Kda Z8b buildT_struct Jqa Wm Vpa Yqa cells_val cells_agg cells_isl cells_osl cells_iptr cells_optr cells_fn cells_ifc okc_val okc_agg okc_isl okc_osl okc_iptr okc_optr okc_fn okc_ifc Value.oneCell' TK.agg Hp.upd_same keepTy_same keepTy_none aint Yab Zk astr anil List.getD_cons_zero List.getD_cons_succ List.set_cons_zero List.set_cons_succ List.getElem?_cons_zero List.getElem?_cons_succ List.drop_zero List.drop_succ_cons List.take_succ_cons List.take_zero List.map_cons List.map_nil List.toList_toArray List.getElem?_toArray List.cons_append List.nil_append List.append_nil List.length_cons List.length_nil List.length_map List.replicate_succ List.replicate_zero List.getElem?_map Option.map_some Option.map_none List.take_nil List.drop_nil if_true if_false Bool.false_eq_true decide_true decide_false true_and and_true false_and and_false Int.toNat_natCast not_true_eq_false not_false_eq_true Nat.add_zero Nat.zero_add List.all_cons List.all_nil Bool.and_true Bool.true_and Option.isSome_some Bool.not_true Bool.not_false ne_eq forall_const implies_true true_implies Bool.or_false Bool.false_or Bool.or_true Bool.true_or Int.natCast_nonneg
end Go.Proofs.YtpkhmfedaaoalaaGreatDoor.AM
namespace Go.Proofs.YtpkhmfedaaoalaaGreatDoor.AM
open Go
theorem Zp.set {g g':Gh} {c:Array Value} {o:Nat} {xs:List AV} {k:Nat} {x x':AV} (hg:g.le g') (h:Zp g c o xs) (hk:xs[k]? = some x) (hx:∀ v,VR g x v→VR g' x' v):Zp g' c o (xs.set k x'):=
 Zp.of_get fun j y hy=>by
  rw [List.getElem?_set] at hy
  split at hy
  ·rename_i e; subst e
   split at hy <;> cases hy
   obtain ⟨v,h1,h2,h3⟩:=h.get hk
   exact ⟨v,h1,h2,hx v h3⟩
  ·obtain ⟨v,h1,h2,h3⟩:=h.get hy
   exact ⟨v,h1,h2,h3.mono hg _ _⟩
theorem Xg.cell {tm:List AV} {h h':Hp} {b i k:Nat} {o:Ob} {row:List AV} {x x':AV} (hb:h b = some o) (hb':h' b = some o) (hr:o.rows[i]? = some row) (hk:row[k]? = some x) (hs:Zf x h x' h') :
  Xg ⟨tm,h⟩ ⟨tm,h'.upd b ⟨o.sz,o.rows.set i (row.set k x'),o.ty⟩⟩:=by
 intro D g a w rl
 obtain ⟨q1,c,e,⟨fr,q2,qt⟩,q3,q4⟩:=rl.hr.ob b o hb
 obtain ⟨l1,l2⟩:=q4.get hr
 obtain ⟨v0,v1,v2,v3⟩:=l2.get hk
 obtain ⟨g',c1,c2,c3⟩:=hs g w v0 rl.hr v3
 refine ⟨g',c1,rl.tm.mono c1,⟨c2.os,c2.tape,c2.output,c2.size,c2.fz,c2.shp,fun b2 o2 h2=>?_,c2.gl,c2.raw⟩,rl.df.mono c1⟩
 by_cases e2:b2 = b
 ·subst e2
  simp only [Hp.upd_same] at h2; cases h2
  obtain ⟨p1,c',e',p2,p3,p4⟩:=c2.ob b2 o hb'
  refine ⟨p1,c',e',p2,p3,Z0.of_get fun j r hj=>?_⟩
  have ec:c' = c:=by obtain ⟨_,p2,_⟩:=p2; rw [p2] at q2; cases q2; rfl
  subst ec
  rw [List.getElem?_set] at hj
  split at hj
  ·rename_i ej; subst ej
   split at hj <;> cases hj
   refine ⟨by simpa using l1,Zp.of_get fun m y hy=>?_⟩
   rw [List.getElem?_set] at hy
   split at hy
   ·rename_i em; subst em
    split at hy <;> cases hy
    exact ⟨v0,v1,v2,c3⟩
   ·exact (p4.get hr).2.get hy
  ·exact p4.get hj
 ·simp only [Hp.upd_ne _ _ e2] at h2
  exact c2.ob b2 o2 h2
theorem Hp.del_ne (h:Hp) {b k:Nat} (e:k≠b):h.del b k = h k:=by simp [Hp.del,e]
theorem Hp.sub.del {h0 h:Hp} (k:h0.sub h) {b:Nat} (hb:h0 b = Option.none):h0.sub (h.del b):=by
 refine ⟨fun x o hx=>?_,k.r⟩
 rw [Hp.del_ne]; exact k x o hx
 intro e; subst e; rw [hb] at hx; cases hx
end Go.Proofs.YtpkhmfedaaoalaaGreatDoor.AM
