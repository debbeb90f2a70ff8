/- ItemsGlues: a part of its proof (packed by a program). -/
import Derived.Test.YtpkhmfedaaoalaaGreatDoorAm6
import Derived.OrdersIn
set_option linter.all false
namespace Go.Proofs.YtpkhmfedaaoalaaGreatDoor.AM
open Go
structure AO where
 dst:Option Nat
 op:Op
 guard:Option (Option Nat×Bool)
 pure:Bool
structure St where
 tm:List AV
 h:Hp
def Yjb (ops:Array Oper):Option (Nat×Bool)→Option (Option Nat×Bool)
 | some (j,want)=>some ((ops[j]?).bind (·.dst),want)
 | none=>none
def slimO (ops:Array Oper) (pu:Bool) (o:Oper):AO:=⟨o.dst,o.op,Yjb ops o.guard,pu⟩
def sl (ops:Array Oper) (pu:List Nat) (i:Nat):AO:=
 match ops[i]? with
 | some o=>slimO ops (pu.contains i) o
 | none=>⟨none,.ready 0,none,false⟩
def aRun (P:Program) (T:Tab) (o:AO) (K:St→Prop) (X:AV→Hp→Prop) (s:St):Prop:=
 aRes P T o.pure o.op (ev s.tm) s.h (fun x h'=>K ⟨put s.tm o.dst x,h'⟩) X
def gw (o:AO) (tm:List AV):Option Bool:=
 match o.guard with
 | none=>some true
 | some (some t,want)=>match tm.getD t .any with
  | .val (.bool b)=>some (decide (b = want))
  | .val _=>some false
  | _=>none
 | some (none,_)=>none
def aOp (P:Program) (T:Tab) (o:AO) (K:St→Prop) (X:AV→Hp→Prop) (s:St):Prop:=
 match gw o s.tm with
 | some true=>aRun P T o K X s
 | some false=>K ⟨put s.tm o.dst (.val undef),s.h⟩
 | none=>False
def aOps (P:Program) (T:Tab) (K:St→Prop) (X:List AV→AV→Hp→Prop):List AO→St→Prop
 | [],s=>K s
 | o :: os,s=>aOp P T o (aOps P T K X os) (X s.tm) s
def Marks1 (D g:Gh) (l:List Deferred):Prop:=(∀ d∈l,∃ b,d = { target:=.collected b,args:=#[] }∧g.fz b = some (.deferred (some []))∧D.fz b = none)∧l.Nodup
def Wta (D g:Gh) (l:List Deferred):Prop:=∃ l1,l = l1++D.tl∧(D.nm = true→l1 = [])∧Marks1 D g l1
theorem Wta.nil (D g:Gh) (h:D.tl = []:=by rfl):Wta D g []:=⟨[],by simp [h],fun _=>rfl,fun _ h=>(by cases h),List.nodup_nil⟩
theorem Wta.tail (D g:Gh):Wta D g D.tl:=⟨[],rfl,fun _=>rfl,fun _ h=>(by cases h),List.nodup_nil⟩
theorem Marks1.mono {D g g':Gh} {l:List Deferred} (h:Marks1 D g l) (k:g.le g'):Marks1 D g' l:=
 ⟨fun d hd=>let ⟨b,h1,h2,h3⟩:=h.1 d hd; ⟨b,h1,k.fz _ _ h2,h3⟩,h.2⟩
theorem Wta.mono {D g g':Gh} {l:List Deferred} (h:Wta D g l) (k:g.le g'):Wta D g' l:=
 let ⟨l1,e,n,m⟩:=h; ⟨l1,e,n,m.mono k⟩
theorem Wta.push {D g g':Gh} {l:List Deferred} (h:Wta D g l) (k:g.le g') {b:Nat} (hb:g.fz b = none) (h1:g'.fz b = some (.deferred (some []))) (h2:D.fz b = none) (hn:D.nm = false):Wta D g' ([{ target:=.collected b,args:=#[] }]++l):=by
 obtain ⟨l1,rfl,_,m⟩:=h
 refine ⟨{ target:=.collected b,args:=#[] } :: l1,rfl,fun e=>(by rw [hn] at e; cases e),fun d hd=>?_,?_⟩
 ·cases hd with
  | head=>exact ⟨b,rfl,h1,h2⟩
  | tail _ hd=>exact (m.mono k).1 d hd
 ·refine List.nodup_cons.2 ⟨fun hm=>?_,m.2⟩
  obtain ⟨b',q1,q2,_⟩:=m.1 _ hm
  cases q1
  rw [hb] at q2; cases q2
theorem TR.cmono {g g':Gh} {tm:List AV} {tmps:Array Value} (h:TR g tm tmps) (k:g.cle g'):TR g' tm tmps:=
 ⟨h.len,fun i x hx=>let ⟨v,hv,hr⟩:=h.at_ i x hx; ⟨v,hv,hr.cmono k _ _⟩⟩
def setAll (tm:List AV) (ps:List Nat) (xs:List AV):List AV:=(ps.zip xs).foldl (fun t (p:Nat×AV)=>t.set p.1 p.2) tm
theorem TR.setAll {g:Gh} {tm:List AV} {tmps:Array Value} (h:TR g tm tmps) {ps:Array Nat} {xs:List AV} {vs:Array Value} (hv:VRs g xs vs.toList) (hl:vs.size = ps.size) :
  TR g (setAll tm ps.toList xs) ((ps.zip vs).foldl (fun t (p:Nat×Value)=>t.setIfInBounds p.1 p.2) tmps):=by
 rw [← Array.foldl_toList,Array.toList_zip]
 unfold AM.setAll
 generalize vs.toList = vl at hv
 generalize ps.toList = pl
 induction pl generalizing tm tmps xs vl with
 | nil=>simpa using h
 | cons p pl ih=>
  cases xs with
  | nil=>cases vl with
   | nil=>simpa using h
   | cons=>simp [VRs] at hv
  | cons x xs=>cases vl with
   | nil=>simp [VRs] at hv
   | cons v vl=>
    simp only [List.zip_cons_cons,List.foldl_cons]
    refine ih ?_ _ hv.2
    have:=TR.put (a:={ tmps,defers:=[] }) h (some p) hv.1
    exact this
structure Rel (D:Gh) (g:Gh) (s:St) (a:Act) (w:World):Prop where
 tm:TR g s.tm a.tmps
 hr:HR g s.h w
 df:Wta D g a.defers
section
variable {P:Program} {T:Tab} {D:Gh} {r:Option Nat}
theorem aOp_run (hT:Kb P T) {ops:Array Oper} {pu:List Nat} {i:Nat} {o:Oper} (hi:ops[i]? = some o) {K:St→Prop} {X:AV→Hp→Prop} {s:St} (h:aOp P T (sl ops pu i) K X s) {g:Gh} {a:Act} {w:World} (hr:Rel D g s a w)
  {K':Act→World→Prop} {Q:Exit→Act→World→Prop} (hk:∀ g' s' a' w',g.le g'→Rel D g' s' a' w'→K s'→K' a' w')
  (hX:∀ g' x v h' w',g.le g'→VR g' x v→HR g' h' w'→X x h'→Q (.panic [{ v,recovered:=false }]) a w'):wpOpIn (Fr r) 0 P ops Q i K' a w:=by
 have hput:∀ v,(a.put o.dst v).defers = a.defers:=by intro v; cases o.dst <;> rfl
 have run:aRun P T (sl ops pu i) K X s→o.wpIn (Fr r) 0 P a w K' Q:=by
  intro h
  simp only [sl,hi,slimO,aRun] at h
  refine aRes_in hT h (fun x=>hr.tm.ev x) hr.hr ?_ hX
  intro g' x v h' w' b1 b2 b3 b4
  exact hk g' _ _ _ b1 ⟨(hr.tm.mono b1).put o.dst b2,b3,by rw [hput v]; exact hr.df.mono b1⟩ b4
 unfold wpOpIn
 simp only [hi]
 have hg:(sl ops pu i).guard = Yjb ops o.guard:=by simp [sl,hi,slimO]
 have hd:(sl ops pu i).dst = o.dst:=by simp [sl,hi,slimO]
 unfold aOp at h
 have hw:∀ b,gw (sl ops pu i) s.tm = some b→Region.wanted o (yielded ops a.tmps) = b:=by
  intro b hb
  unfold gw at hb
  rw [hg] at hb
  cases hog:o.guard with
  | none=>rw [hog] at hb; cases hb; simp [Region.wanted,hog]
  | some gq=>
   obtain ⟨j,want⟩:=gq
   rw [hog] at hb
   simp only [Yjb] at hb
   cases hj:(ops[j]?).bind (·.dst) with
   | none=>rw [hj] at hb; cases hb
   | some t=>
    rw [hj] at hb
    simp only at hb
    split at hb
    ·cases hb
     rename_i b hq
     have hx:=hr.tm.ev (.tmp t)
     simp only [ev,hq,VR,Act.eval] at hx
     have hy:yielded ops a.tmps j = some b:=by
      unfold yielded
      rw [hj]
      simp only [Option.bind_some]
      cases hb2:a.tmps[t]? with
      | none=>simp [hb2,undef] at hx
      | some v2=>simp [hb2] at hx; subst hx; rfl
     simp [Region.wanted,hog,hy]
     cases b <;> cases want <;> rfl
    ·cases hb
     rename_i v hnb hq
     have hx:=hr.tm.ev (.tmp t)
     simp only [ev,hq,VR,Act.eval] at hx
     have hy:yielded ops a.tmps j = none:=by
      unfold yielded
      rw [hj]
      simp only [Option.bind_some]
      cases hb2:a.tmps[t]? with
      | none=>rfl
      | some v2=>
       simp [hb2] at hx; subst hx
       split
       ·rename_i b e; cases e; exact absurd rfl (hnb b)
       ·rfl
     simp [Region.wanted,hog,hy]
    ·cases hb
 split at h
 ·rename_i e
  simp only [hw _ e,if_true]
  exact run h
 ·rename_i e
  simp only [hw _ e,Bool.false_eq_true,if_false]
  rw [hd] at h
  exact ⟨fun _ _=>trivial,hk g ⟨put s.tm o.dst (.val undef),s.h⟩ _ _ (Gh.le.refl g) ⟨hr.tm.put o.dst (x:=.val undef) (by simp [VR]),hr.hr,by rw [hput undef]; exact hr.df⟩ h⟩
 ·exact h.elim
theorem aOps_run (hT:Kb P T) {ops:Array Oper} {pu:List Nat} {K:St→Prop} {X:List AV→AV→Hp→Prop} {Q:Exit→Act→World→Prop} {g0:Gh}
  (hn:∀ g s a w,g0.le g→Rel D g s a w→K s→Q .normal a w) (hX:∀ g x v tm h' a w,g0.le g→TR g tm a.tmps→VR g x v→HR g h' w→Wta D g a.defers→X tm x h'→Q (.panic [{ v,recovered:=false }]) a w) :
  ∀ (l:List Nat),(∀ i∈l,i < ops.size)→∀ (s:St),aOps P T K X (l.map (sl ops pu)) s→∀ (g:Gh) (a:Act) (w:World),g0.le g→Rel D g s a w→wpOpsIn (Fr r) 0 P ops Q l a w
 | [],_,s,h,g,a,w,hg,hr=>by simpa [wpOpsIn] using hn g s a w hg hr h
 | i :: l,hl,s,h,g,a,w,hg,hr=>by
  rw [wpOpsIn_cons]
  obtain ⟨o,ho⟩:∃ o,ops[i]? = some o:=⟨_,Array.getElem?_eq_getElem (hl i (by simp))⟩
  simp only [List.map_cons,aOps] at h
  exact aOp_run hT ho h hr (fun g' s' a' w' b1 b2 b3=>aOps_run hT hn hX l (fun j hj=>hl j (by simp [hj])) s' b3 g' a' w' (hg.trans b1) b2)
   (fun g' x v h' w' b1 b2 b3 b4=>hX g' x v s.tm h' a w' (hg.trans b1) (hr.tm.mono b1) b2 b3 (hr.df.mono b1) b4)
def aAny (P:Program) (T:Tab) (ops:Array Oper) (pu:List Nat) (K:St→Prop) (X:AV→Hp→Prop):Nat→Array Bool→St→Prop
 | 0,listed,s=>Region.ready .any ops listed = []∧K s
 | fuel+1,listed,s=>(Region.ready .any ops listed = []→K s)∧∀ i∈Region.ready .any ops listed,aOp P T (sl ops pu i) (aAny P T ops pu K X fuel (listed.setIfInBounds i true)) X s
theorem aAny_run (hT:Kb P T) {ops:Array Oper} {pu:List Nat} {K:St→Prop} {X:AV→Hp→Prop} {Q:Exit→Act→World→Prop} {g0:Gh}
  (hn:∀ g s a w,g0.le g→Rel D g s a w→K s→Q .normal a w) (hX:∀ g x v h' a w,g0.le g→VR g x v→HR g h' w→Wta D g a.defers→X x h'→Q (.panic [{ v,recovered:=false }]) a w) :
  ∀ (fuel:Nat) (listed:Array Bool) (s:St),aAny P T ops pu K X fuel listed s→∀ (g:Gh) (a:Act) (w:World),g0.le g→Rel D g s a w→wpAnyIn (Fr r) 0 P .any ops Q fuel listed a w
 | 0,listed,s,h,g,a,w,hg,hr=>⟨h.1,hn g s a w hg hr h.2⟩
 | fuel+1,listed,s,h,g,a,w,hg,hr=>by
  refine ⟨fun e=>hn g s a w hg hr (h.1 e),fun i hi=>?_⟩
  obtain ⟨_,o,ho,_⟩:=mem_ready.1 hi
  exact aOp_run hT ho (h.2 i hi) hr (fun g' s' a' w' b1 b2 b3=>aAny_run hT hn hX fuel _ s' b3 g' a' w' (hg.trans b1) b2)
   (fun g' x v h' w' b1 b2 b3 b4=>hX g' x v h' a w' (hg.trans b1) b2 b3 (hr.df.mono b1) b4)
inductive Plan where
 | done
 | op (i:Nat) (p:Plan)
 | both (p q:Plan)
def Plan.heads:Plan→List Nat
 | .done=>[]
 | .op i _=>[i]
 | .both p q=>p.heads++q.heads
def nilConst:Operand→Bool
 | .const (.slice none 0 0)=>true
 | _=>false
def J3a:Op→Bool
 | .binOp _ _ _ y _=>!nilConst y
 | .move _ | .assign _ | .pick .. | .unOp .. | .fieldAddr .. | .field .. | .indexAddr .. | .index .. | .slice _ _ _ _ none | .extract .. | .makeFunc .. | .build .. | .nilCheck _ | .makeInterface ..=>true
 | .call ⟨.builtin .len,_,_⟩ | .call ⟨.builtin .max,_,_⟩ | .call ⟨.builtin .min,_,_⟩=>true
 | _=>false
def isLoad:Op→Bool
 | .load ..=>true
 | _=>false
def Vya:Op→Bool
 | .call ⟨.value _,_,_⟩=>true
 | _=>false
def monoOp:Op→Bool
 | .load .. | .alloc _ | .box .. | .buildSlice .. | .makeSlice .. | .binOp .. | .convert ..=>true
 | op=>J3a op
def waits (ops:Array Oper) (listed:Array Bool) (i:Nat) (acc:List Nat) (n:Nat):Bool:=
 (!listed.getD n true) && (n != i) && (match ops[n]? with | some o=>o.after.any (fun e=>Region.binds .any e && (e.on == i || acc.contains e.on)) | none=>false)
def Xkb (ops:Array Oper) (listed:Array Bool) (i:Nat):Nat→List Nat
 | 0=>[]
 | n+1=>if waits ops listed i (Xkb ops listed i n) n then n :: Xkb ops listed i n else Xkb ops listed i n
def firstOK (ops:Array Oper) (pu:List Nat) (listed:Array Bool) (i:Nat):Bool:=
 match ops[i]? with
 | none=>false
 | some oi=>Region.free .any ops listed i &&
  (J3a oi.op || ((Vya oi.op || isLoad oi.op) && pu.contains i) ||
   (isLoad oi.op && (List.range ops.size).all fun j=>j == i || listed.getD j true || (match ops[j]? with
    | some oj=>oj.after.any (fun e=>Region.binds .any e && e.on == i) || monoOp oj.op || (Vya oj.op && pu.contains j)
    | none=>true) || (Xkb ops listed i ops.size).contains j))
mutual
def Jwa (ops:Array Oper) (pu:List Nat) (listed:Array Bool):Plan→Bool
 | .done=>(Region.ready .any ops listed).isEmpty
 | .op i p=>(Region.ready .any ops listed == [i] || ((Region.ready .any ops listed).contains i && firstOK ops pu listed i)) && Jwa ops pu (listed.setIfInBounds i true) p
 | .both p q=>!(Region.ready .any ops listed).isEmpty && (Region.ready .any ops listed).all (fun i=>p.heads.contains i || q.heads.contains i) && altOK ops pu listed p && altOK ops pu listed q
def altOK (ops:Array Oper) (pu:List Nat) (listed:Array Bool):Plan→Bool
 | .done=>true
 | .op i p=>Jwa ops pu (listed.setIfInBounds i true) p
 | .both p q=>altOK ops pu listed p && altOK ops pu listed q
end
def Ypa (P:Program) (T:Tab) (f:Nat→AO) (K:St→Prop) (X:AV→Hp→Prop):Plan→St→Prop
 | .done,s=>K s
 | .op i p,s=>aOp P T (f i) (Ypa P T f K X p) X s
 | .both p q,s=>Ypa P T f K X p s∧Ypa P T f K X q s
end
end Go.Proofs.YtpkhmfedaaoalaaGreatDoor.AM
namespace Go.Proofs.YtpkhmfedaaoalaaGreatDoor.AM
open Go
section
variable {P:Program} {T:Tab}
theorem acalm_congr {op:Op} {ρ ρ':Operand→AV} (h:∀ x∈op.operands,ρ x = ρ' x):Wz T op ρ = Wz T op ρ':=by
 have pairs:∀ ps:Array (Nat×Operand),(∀ x∈ps.toList.map (·.2),ρ x = ρ' x)→(ps.toList.map fun p=>(p.1,ρ p.2)) = (ps.toList.map fun p=>(p.1,ρ' p.2)):=fun ps hp=>
  List.map_congr_left fun p hm=>by rw [hp p.2 (List.mem_map.2 ⟨p,hm,rfl⟩)]
 have lst:∀ xs:Array Operand,(∀ x∈xs,ρ x = ρ' x)→xs.toList.map ρ = xs.toList.map ρ':=fun xs hx=>
  List.map_congr_left fun x hm=>hx x (by simpa using hm)
 cases op <;> simp only [Op.operands] at h <;> simp only [Wz]
 case build t ps=>rw [pairs ps (by intro x hx; exact h x (by simpa using hx))]
 case makeFunc f first caps=>rw [lst first fun x hx=>h x (by simp [hx]),lst caps fun x hx=>h x (by simp [hx])]
 case slice t x lo hi mx=>cases lo <;> cases hi <;> cases mx <;> simp_all
 case typeAssert x xt t ok=>
  have:ρ x = ρ' x:=h x (by simp)
  cases ok <;> first | rfl | (simp only [this])
 case call c=>
  obtain ⟨callee,args,tys⟩:=c
  cases callee <;> try rfl
  rename_i b
  simp only [Call.operands] at h
  have two:∀ x y,args.toList = [x,y]→ρ x = ρ' x∧ρ y = ρ' y:=fun x y e=>by
   have m1:x∈args:=by
    have:x∈args.toList:=by rw [e]; simp
    simpa using this
   have m2:y∈args:=by
    have:y∈args.toList:=by rw [e]; simp
    simpa using this
   exact ⟨h x (by simp [m1]),h y (by simp [m2])⟩
  cases b <;> try rfl
  case max=>
   show (match args.toList with | [x,y]=>amax (ρ x) (ρ y) | _=>none) = (match args.toList with | [x,y]=>amax (ρ' x) (ρ' y) | _=>none)
   generalize args.toList = l at two
   match l,two with
   | [],_=>rfl
   | [_],_=>rfl
   | [x,y],two=>simp only [(two x y rfl).1,(two x y rfl).2]
   | _ :: _ :: _ :: _,_=>rfl
  case min=>
   show (match args.toList with | [x,y]=>amin (ρ x) (ρ y) | _=>none) = (match args.toList with | [x,y]=>amin (ρ' x) (ρ' y) | _=>none)
   generalize args.toList = l at two
   match l,two with
   | [],_=>rfl
   | [_],_=>rfl
   | [x,y],two=>simp only [(two x y rfl).1,(two x y rfl).2]
   | _ :: _ :: _ :: _,_=>rfl
  cases e:args[0]? with
  | none=>simp only [e]
  | some x=>
   have:ρ x = ρ' x:=h x (by simp; exact Array.mem_of_getElem? e)
   cases e2:tys[0]? with
   | none=>simp only [e,e2]
   | some t=>simp only [e,e2,this]
 all_goals first | rfl | (simp_all; done)
theorem aRes_congr {pu:Bool} {op:Op} {ρ ρ':Operand→AV} (h:∀ x∈op.operands,ρ x = ρ' x) (hp:Hp) (k X:AV→Hp→Prop):aRes P T pu op ρ hp k X = aRes P T pu op ρ' hp k X:=by
 have pairs:∀ ps:Array (Nat×Operand),(∀ x∈ps.toList.map (·.2),ρ x = ρ' x)→(ps.toList.map fun p=>(p.1,ρ p.2)) = (ps.toList.map fun p=>(p.1,ρ' p.2)):=fun ps hp=>
  List.map_congr_left fun p hm=>by rw [hp p.2 (List.mem_map.2 ⟨p,hm,rfl⟩)]
 have lst:∀ xs:Array Operand,(∀ x∈xs,ρ x = ρ' x)→xs.toList.map ρ = xs.toList.map ρ':=fun xs hx=>
  List.map_congr_left fun x hm=>hx x (by simpa using hm)
 have calm:Wz T op ρ = Wz T op ρ':=acalm_congr h
 cases op <;> simp only [Op.operands] at h
 case buildSlice t n ps=>simp only [aRes]; rw [pairs ps (by intro x hx; exact h x (by simpa using hx))]
 case makeMap t r=>cases r <;> simp only [aRes,calm]
 case next x s=>cases s <;> first | (simp only [aRes,calm]; done) | (simp only [aRes]; rw [h x (by simp)])
 case call c=>
  obtain ⟨callee,args,tys⟩:=c
  simp only [Call.operands] at h
  cases callee with
  | value f=>
   have hf:ρ f = ρ' f:=h f (by simp)
   have ha:=lst args fun x hx=>h x (by simp [hx])
   simp only [aRes,hf,ha]
  | invoke r m=>simp only [aRes,calm]
  | builtin b=>
   cases b <;> try (simp only [aRes,calm]; done)
   case clear=>
    simp only [aRes]
    split
    ·rename_i x t e1 e2
     have m1:x∈args:=by
      have:x∈args.toList:=by rw [e1]; simp
      simpa using this
     rw [h x (by simp [m1])]
    ·rfl
   simp only [aRes]
   split
   ·rename_i s x t tx e1 e2
    have m1:s∈args:=by
     have:s∈args.toList:=by rw [e1]; simp
     simpa using this
    have m2:x∈args:=by
     have:x∈args.toList:=by rw [e1]; simp
     simpa using this
    rw [h s (by simp [m1]),h x (by simp [m2])]
   ·rfl
 all_goals first | (simp only [aRes,calm]; done) | (simp only [aRes]; simp_all; done) | (simp only [aRes]; simp only [h _ (by simp)])
theorem aAppend_mono {t tx:Nat} {s x:AV} {h:Hp} {k k':AV→Hp→Prop} (hk:∀ y h',k y h'→k' y h') (H:Kxa T t tx s x h k):Kxa T t tx s x h k':=by
 have HK:∃ _:Unit,∀ y h',k y h'→k' y h':=⟨(),hk⟩
 clear hk
 unfold Kxa at *
 split at H <;> try exact H.elim
 split at H <;> try exact H.elim
 split at H <;> try exact H.elim
 split at H <;> try exact H.elim
 simp_all only
 obtain ⟨_,hk⟩:=HK
 refine ⟨trivial,trivial,trivial,?_⟩
 have:=H.2.2.2
 split at this
 ·exact ⟨fun e=>hk _ _ (this.1 e),fun e b hb=>hk _ _ (this.2 e b hb)⟩
 ·exact fun b hb=>hk _ _ (this b hb)
theorem aClear_mono {t:Nat} {x:AV} {h:Hp} {k k':AV→Hp→Prop} (hk:∀ y h',k y h'→k' y h') (H:aClear T t x h k):aClear T t x h k':=by
 unfold aClear at *
 split at H <;> try exact H.elim
 split at H <;> try exact H.elim
 ·split at H <;> try exact H.elim
  exact ⟨H.1,H.2.1,H.2.2.1,hk _ _ H.2.2.2⟩
 ·exact hk _ _ H
 ·exact hk _ _ H
theorem aBytes_mono {s d:Nat} {x:AV} {h:Hp} {k k':AV→Hp→Prop} (hk:∀ y h',k y h'→k' y h') (H:Zhb T s d x h k):Zhb T s d x h k':=by
 unfold Zhb at *
 split at H <;> try exact H.elim
 split at H <;> try exact H.elim
 split at H <;> try exact H.elim
 exact ⟨H.1,H.2.1,fun b hb=>hk _ _ (H.2.2 b hb)⟩
theorem aLook_mono {t:Nat} {x i:AV} {ok:Bool} {h:Hp} {k k':AV→Hp→Prop} (hk:∀ y h',k y h'→k' y h') (H:aLook T t x i ok h k):aLook T t x i ok h k':=by
 unfold aLook at *
 split at H <;> try exact H.elim
 split at H <;> try exact H.elim
 split at H <;> try exact H.elim
 refine ⟨H.1,?_⟩
 have:=H.2
 split at this <;> try exact this.elim
 split at this <;> first | exact this.elim | exact hk _ _ this
theorem aUpdV_mono {t:Nat} {x i:AV} {v:Value} {h:Hp} {k k':AV→Hp→Prop} (hk:∀ y h',k y h'→k' y h') (H:aUpdV T t x i v h k):aUpdV T t x i v h k':=by
 unfold aUpdV at *
 split at H <;> try exact H.elim
 split at H <;> try exact H.elim
 split at H <;> try exact H.elim
 refine ⟨H.1,?_⟩
 have:=H.2
 split at this <;> first | exact this.elim | exact hk _ _ this
theorem aUpd_mono {t:Nat} {x i v:AV} {h:Hp} {k k':AV→Hp→Prop} (hk:∀ y h',k y h'→k' y h') (H:aUpd T t x i v h k):aUpd T t x i v h k':=by
 unfold aUpd at *
 split at H <;> try exact H.elim
 ·exact aUpdV_mono hk H
 ·split at H <;> try exact H.elim
  split at H <;> try exact H.elim
  exact ⟨H.1,H.2.1,H.2.2.1,fun cap m h1 h2=>aUpdV_mono hk (H.2.2.2 cap m h1 h2)⟩
theorem aRange_mono {t:Nat} {x:AV} {h:Hp} {k k':AV→Hp→Prop} (hk:∀ y h',k y h'→k' y h') (H:X3b T t x h k):X3b T t x h k':=by
 unfold X3b at *
 split at H <;> try exact H.elim
 ·split at H <;> try exact H.elim
  split at H <;> try exact H.elim
  exact fun r hr=>hk _ _ (H r hr)
 ·split at H <;> try exact H.elim
  exact fun r hr=>hk _ _ (H r hr)
theorem aNext_mono {x:AV} {h:Hp} {k k':AV→Hp→Prop} (hk:∀ y h',k y h'→k' y h') (H:aNext x h k):aNext x h k':=by
 unfold aNext at *
 split at H <;> try exact H.elim
 exact ⟨fun e=>hk _ _ (H.1 e),fun i hi p hp=>hk _ _ (H.2 i hi p hp)⟩
theorem aNextS_mono {x:AV} {h:Hp} {k k':AV→Hp→Prop} (hk:∀ y h',k y h'→k' y h') (H:aNextS x h k):aNextS x h k':=by
 unfold aNextS at *
 split at H <;> try exact H.elim
 split at H <;> try exact H.elim
 split at H
 ·rename_i e; rw [if_pos e]; exact hk _ _ H
 ·rename_i e; rw [if_neg e]; exact hk _ _ H
theorem aEntry_mono {x:AV} {h:Hp} {k k':AV→Hp→Prop} (hk:∀ y h',k y h'→k' y h') (H:aEntry x h k):aEntry x h k':=by
 unfold aEntry at *
 split at H <;> try exact H.elim
 split at H <;> try exact H.elim
 split at H <;> first | exact H.elim | exact hk _ _ H
theorem nilCmp_mono {op:BinOp} {t:Nat} {x:AV} {y:Operand} {h:Hp} {k k':AV→Hp→Prop} (hk:∀ y h',k y h'→k' y h') (H:nilCmp T op t x y h k):nilCmp T op t x y h k':=by
 unfold nilCmp at *
 split at H <;> try exact H.elim
 split at H <;> try exact H.elim
 all_goals exact ⟨fun e=>hk _ _ (H.1 e),hk _ _ H.2⟩
theorem Kwa {pu:Bool} {op:Op} {ρ:Operand→AV} {h:Hp} {k k' X X':AV→Hp→Prop} (hk:∀ y h',k y h'→k' y h') (hX:∀ y h',X y h'→X' y h') (H:aRes P T pu op ρ h k X):aRes P T pu op ρ h k' X':=by
 have HK:∃ _:Unit,∀ y h',k y h'→k' y h':=⟨(),hk⟩
 have HX:∃ _:Unit,∀ y h',X y h'→X' y h':=⟨(),hX⟩
 clear hk hX
 unfold aRes at *
 split at H
 ·split at H <;> try exact H.elim
  try simp_all only
  obtain ⟨_,hk⟩:=HK
  exact fun b hb=>hk _ _ (H b hb)
 ·split at H <;> try exact H.elim
  try simp_all only
  obtain ⟨_,hk⟩:=HK
  exact ⟨trivial,trivial,fun b hb=>hk _ _ (H.2.2 b hb)⟩
 ·split at H
  ·split at H <;> try exact H.elim
   split at H <;> try exact H.elim
   split at H <;> try exact H.elim
   try simp_all only
   obtain ⟨_,hk⟩:=HK
   refine ⟨trivial,?_⟩
   have:=H.2
   split at this
   ·exact hk _ _ this
   ·exact this.elim
  ·obtain ⟨_,hk⟩:=HK
   split at H
   ·exact hk _ _ H
   ·exact H.elim
 ·split at H <;> try exact H.elim
  split at H <;> try exact H.elim
  split at H <;> try exact H.elim
  try simp_all only
  obtain ⟨_,hk⟩:=HK
  exact ⟨trivial,trivial,trivial,trivial,hk _ _ H.2.2.2.2⟩
 ·split at H <;> try exact H.elim
  split at H <;> try exact H.elim
  split at H <;> try exact H.elim
  try simp_all only
  obtain ⟨_,hk⟩:=HK
  refine ⟨trivial,trivial,?_⟩
  have:=H.2.2
  split at this
  ·exact fun b hb=>hk _ _ (this b hb)
  ·exact this.elim
 ·split at H <;> try exact H.elim
  split at H <;> try exact H.elim
  split at H <;> try exact H.elim
  try simp_all only
  obtain ⟨_,hk⟩:=HK
  exact ⟨trivial,trivial,trivial,trivial,trivial,fun b hb=>hk _ _ (H.2.2.2.2.2 b hb)⟩
 ·split at H <;> try exact H.elim
  obtain ⟨_,hk⟩:=HK
  exact aAppend_mono hk H
 ·obtain ⟨_,hk⟩:=HK
  obtain ⟨_,hX⟩:=HX
  split at H <;> try exact H.elim
  rotate_left
  ·split at H
   ·exact H.elim
   ·rename_i e
    rw [if_neg e]
    exact H.mono hk
  split at H
  ·rename_i e
   rw [if_pos e]
   obtain ⟨x,a,b⟩:=H
   exact ⟨x,a,hk _ _ b⟩
  ·rename_i e
   rw [if_neg e]
   refine H.mono fun e h' q=>?_
   cases e with
   | ret x=>exact hk _ _ q
   | pan x=>exact hX _ _ q
 ·obtain ⟨_,hX⟩:=HX
  split at H <;> try exact H.elim
  exact hX _ _ H
 ·obtain ⟨_,hk⟩:=HK
  split at H <;> try exact H.elim
  exact aClear_mono hk H
 ·obtain ⟨_,hk⟩:=HK
  split at H <;> try exact H.elim
  split at H <;> try exact H.elim
  exact fun b hb=>hk _ _ (H b hb)
 ·obtain ⟨_,hk⟩:=HK; exact aLook_mono hk H
 ·obtain ⟨_,hk⟩:=HK; exact aUpd_mono hk H
 ·obtain ⟨_,hk⟩:=HK; exact aRange_mono hk H
 ·obtain ⟨_,hk⟩:=HK; exact aNext_mono hk H
 ·obtain ⟨_,hk⟩:=HK; exact aNextS_mono hk H
 ·obtain ⟨_,hk⟩:=HK; exact aEntry_mono hk H
 ·obtain ⟨_,hk⟩:=HK
  split at H
  ·exact hk _ _ H
  ·exact nilCmp_mono hk H
 ·obtain ⟨_,hk⟩:=HK
  split at H
  ·exact hk _ _ H
  ·split at H
   ·exact hk _ _ H
   ·exact aBytes_mono hk H
 ·obtain ⟨_,hk⟩:=HK
  split at H
  ·exact hk _ _ H
  ·exact H.elim
theorem aOp_eq (o:AO) (K:St→Prop) (X:AV→Hp→Prop) (s:St):aOp P T o K X s = (match gw o s.tm with
  | some true=>aRun P T o K X s
  | some false=>K ⟨put s.tm o.dst (.val undef),s.h⟩
  | none=>False):=rfl
def AO.looks (o:AO):List Nat:=
 (o.op.operands.toList.filterMap fun | .tmp t=>some t | _=>none)++(match o.guard with
  | some (some t,_)=>[t]
  | _=>[])
theorem ev_put {tm:List AV} {d:Option Nat} {y:AV} {x:Operand} (h:∀ t,x = .tmp t→d≠some t):ev (put tm d y) x = ev tm x:=by
 cases d with
 | none=>rfl
 | some d=>
  cases x with
  | tmp t=>
   have:d≠t:=fun e=>h t rfl (by rw [e])
   simp [ev,put,List.getD,List.getElem?_set,this]
  | _=>rfl
theorem looks_op {o:AO} {d:Option Nat} (h:∀ t,d = some t→t∉o.looks):∀ x∈o.op.operands,∀ t,x = .tmp t→d≠some t:=by
 intro x hx t e hd
 subst e
 exact h t hd (List.mem_append_left _ (List.mem_filterMap.2 ⟨.tmp t,by simpa using hx,rfl⟩))
theorem gw_put {o:AO} {tm:List AV} {d:Option Nat} {y:AV} (h:∀ t,d = some t→t∉o.looks):gw o (put tm d y) = gw o tm:=by
 unfold gw
 split
 ·rfl
 ·rename_i t want hg
  have:d≠some t:=fun e=>h t e (by simp [AO.looks,hg])
  have:=ev_put (tm:=tm) (y:=y) (x:=.tmp t) (d:=d) (fun t' e=>by cases e; exact this)
  simp only [ev] at this
  rw [this]
 ·rfl
theorem put_comm {tm:List AV} {d e:Option Nat} {x y:AV} (h:∀ t,d = some t→e≠some t):put (put tm d x) e y = put (put tm e y) d x:=by
 cases d with
 | none=>rfl
 | some d=>
  cases e with
  | none=>rfl
  | some e=>
   have:d≠e:=fun q=>h d rfl (by rw [q])
   simp only [put]
   exact List.set_comm _ _ this
def Yl (P:Program) (T:Tab) (c:Bool) (o:AO) (x:AV) (s:St):Prop:=
 (gw o s.tm = some true∧∀ h',(c = true∨s.h.sub h')→∀ k X,k x h'→aRes P T o.pure o.op (ev s.tm) h' k X)∨(gw o s.tm = some false∧x = .val undef)
theorem Yl.op {c:Bool} {o:AO} {x:AV} {s:St} (h:Yl P T c o x s) {K:St→Prop} {X:AV→Hp→Prop} (hk:K ⟨put s.tm o.dst x,s.h⟩):aOp P T o K X s:=by
 rw [aOp_eq]
 rcases h with ⟨h1,h2⟩ | ⟨h1,rfl⟩
 ·rw [h1]; exact h2 s.h (.inr (Hp.sub.refl _)) _ _ hk
 ·rw [h1]; exact hk
theorem Yl.keep {c:Bool} {o:AO} {x:AV} {s:St} (h:Yl P T c o x s) {d:Option Nat} {y:AV} (hd:∀ t,d = some t→t∉o.looks) {h':Hp} (hh:c = true∨s.h.sub h'):Yl P T c o x ⟨put s.tm d y,h'⟩:=by
 rcases h with ⟨h1,h2⟩ | ⟨h1,rfl⟩
 ·refine .inl ⟨by rw [← h1]; exact gw_put hd,fun h2' hc k X hk=>?_⟩
  have:=h2 h2' (by
   rcases hc with e | e
   ·exact .inl e
   ·rcases hh with q | q
    ·exact .inl q
    ·exact .inr (q.trans e)) k X hk
  rwa [aRes_congr (ρ':=ev (put s.tm d y)) (fun z hz=>(ev_put (looks_op hd z hz)).symm)] at this
 ·exact .inr ⟨by rw [← h1]; exact gw_put hd,rfl⟩
theorem Xmb {op:Op} (h:J3a op = true) (pu:Bool) (ρ:Operand→AV) (hp:Hp) (k X:AV→Hp→Prop):aRes P T pu op ρ hp k X = (match Wz T op ρ with | some x=>k x hp | none=>False):=by
 cases op <;> first | rfl | (simp only [J3a,Bool.false_eq_true] at h; done) | skip
 ·rename_i op t x y yt
  simp only [J3a,Bool.not_eq_true'] at h
  simp only [aRes]
  split
  ·rename_i z e; rw [e]
  ·rename_i e
   rw [e]
   unfold nilCmp
   split <;> try rfl
   split <;> first | rfl | (simp [nilConst] at h)
 ·rename_i c
  obtain ⟨callee,args,tys⟩:=c
  cases callee <;> first | (simp only [J3a,Bool.false_eq_true] at h; done) | skip
  rename_i b
  cases b <;> first | rfl | (simp only [J3a,Bool.false_eq_true] at h; done)
def clsOK (c:Bool) (o:AO):Prop:=if c then J3a o.op = true∨((Vya o.op || isLoad o.op) = true∧o.pure = true) else isLoad o.op = true
theorem first_yields {c:Bool} {o:AO} (hc:clsOK c o) {K:St→Prop} {X:AV→Hp→Prop} {s:St} (h:aOp P T o K X s):∃ x,Yl P T c o x s∧K ⟨put s.tm o.dst x,s.h⟩:=by
 rw [aOp_eq] at h
 cases hg:gw o s.tm with
 | none=>rw [hg] at h; exact h.elim
 | some b=>
  rw [hg] at h
  cases b with
  | false=>exact ⟨.val undef,.inr ⟨hg,rfl⟩,h⟩
  | true=>
   simp only [aRun] at h
   cases c with
   | true=>
    rcases hc with hc | ⟨hc,hpu⟩
    ·rw [Xmb hc] at h
     split at h <;> try exact h.elim
     rename_i x hx
     refine ⟨x,.inl ⟨hg,fun h' _ k X hk=>?_⟩,h⟩
     rw [Xmb hc,hx]; exact hk
    ·obtain ⟨dst,op,guard,pu⟩:=o
     simp only at hpu hc h ⊢
     subst hpu
     cases op <;> simp only [Vya,isLoad,Bool.or_self,Bool.or_true,Bool.or_false,Bool.false_eq_true] at hc
     case load t p=>
      simp only [aRes,if_true] at h
      split at h
      ·exact h.elim
      ·rename_i hno
       split at h <;> try exact h.elim
       rename_i z hz
       refine ⟨z,.inl ⟨hg,fun h' hh k X hk=>?_⟩,h⟩
       simp only [aRes,hz]
       exact hk
     rename_i cl
     obtain ⟨callee,args,tys⟩:=cl
     cases callee <;> simp only [Bool.false_eq_true] at hc
     rename_i f
     simp only [aRes,if_true] at h
     split at h <;> try exact h.elim
     rename_i n first caps hf
     obtain ⟨x,hp,hk⟩:=h
     refine ⟨x,.inl ⟨hg,fun h' _ k X hk=>?_⟩,hk⟩
     simp only [aRes,if_true]
     rw [hf]
     exact ⟨x,hp,hk⟩
   | false=>
    have hc':isLoad o.op = true:=hc
    obtain ⟨dst,op,guard,pu⟩:=o
    simp only at hc' h ⊢
    cases op <;> simp only [isLoad,Bool.false_eq_true] at hc'
    rename_i t p
    simp only [aRes] at h
    split at h
    ·rename_i b sz i cc hq
     split at h <;> try exact h.elim
     rename_i hpf
     split at h <;> try exact h.elim
     rename_i ti ob hti hob
     split at h <;> try exact h.elim
     rename_i r hrow
     obtain ⟨hsz,h⟩:=h
     split at h <;> try exact h.elim
     rename_i y hy
     refine ⟨y,.inl ⟨hg,fun h' hh k X hk=>?_⟩,h⟩
     have hsub:s.h.sub h':=hh.resolve_left (by simp)
     simp only [aRes]
     rw [hq]
     simp only [hti,hsub _ _ hob,hrow,hy,if_neg hpf]
     exact ⟨hsz,hk⟩
    ·rename_i hno
     split at h <;> try exact h.elim
     rename_i z hz
     refine ⟨z,.inl ⟨hg,fun h' hh k X hk=>?_⟩,h⟩
     simp only [aRes,hz]
     exact hk
theorem aRes_sub {pu:Bool} {op:Op} (hm:monoOp op = true∨(Vya op = true∧pu = true)) {ρ:Operand→AV} {h:Hp} {k X:AV→Hp→Prop} (H:aRes P T pu op ρ h k X):aRes P T pu op ρ h (fun y h'=>h.sub h'∧k y h') X:=by
 have new:∀ (b:Nat) (o:Ob),h b = none→h.sub (h.upd b o):=fun b o hb=>(Hp.sub.refl h).upd o hb
 rcases hm with hm | ⟨hc,rfl⟩
 ·by_cases hcalm:J3a op = true
  ·rw [Xmb hcalm] at H ⊢
   split at H <;> try exact H.elim
   exact ⟨Hp.sub.refl _,H⟩
  ·cases op <;> simp only [monoOp] at hm <;> try exact absurd hm hcalm
   case binOp op t x y yt=>
    simp only [aRes] at H ⊢
    split at H
    ·exact ⟨Hp.sub.refl _,H⟩
    ·unfold nilCmp at *
     split at H <;> try exact H.elim
     split at H <;> try exact H.elim
     all_goals exact ⟨fun e=>⟨Hp.sub.refl _,H.1 e⟩,Hp.sub.refl _,H.2⟩
   case convert s d x=>
    simp only [aRes] at H ⊢
    split at H
    ·exact ⟨Hp.sub.refl _,H⟩
    ·split at H
     ·exact ⟨Hp.sub.refl _,H⟩
     ·unfold Zhb at *
      split at H <;> try exact H.elim
      split at H <;> try exact H.elim
      split at H <;> try exact H.elim
      exact ⟨H.1,H.2.1,fun b hb=>⟨new b _ hb,H.2.2 b hb⟩⟩
   case alloc t=>
    simp only [aRes] at H ⊢
    split at H <;> try exact H.elim
    exact fun b hb=>⟨new b _ hb,H b hb⟩
   case box t x=>
    simp only [aRes] at H ⊢
    split at H <;> try exact H.elim
    exact ⟨H.1,H.2.1,fun b hb=>⟨new b _ hb,H.2.2 b hb⟩⟩
   case buildSlice t n ps=>
    simp only [aRes] at H ⊢
    split at H <;> try exact H.elim
    split at H <;> try exact H.elim
    split at H <;> try exact H.elim
    refine ⟨H.1,H.2.1,?_⟩
    have:=H.2.2
    split at this <;> try exact this.elim
    exact fun b hb=>⟨new b _ hb,this b hb⟩
   case load t x=>
    simp only [aRes] at H ⊢
    split at H
    ·split at H <;> try exact H.elim
     rename_i hpf
     rw [if_neg hpf]
     split at H <;> try exact H.elim
     split at H <;> try exact H.elim
     refine ⟨H.1,?_⟩
     have:=H.2
     split at this <;> try exact this.elim
     exact ⟨Hp.sub.refl _,this⟩
    ·split at H <;> try exact H.elim
     exact ⟨Hp.sub.refl _,H⟩
   case makeSlice t l c=>
    simp only [aRes] at H ⊢
    split at H <;> try exact H.elim
    split at H <;> try exact H.elim
    split at H <;> try exact H.elim
    exact ⟨H.1,H.2.1,H.2.2.1,H.2.2.2.1,H.2.2.2.2.1,fun b hb=>⟨new b _ hb,H.2.2.2.2.2 b hb⟩⟩
 ·cases op <;> simp only [Vya,Bool.false_eq_true] at hc
  rename_i cl
  obtain ⟨callee,args,tys⟩:=cl
  cases callee <;> simp only [Bool.false_eq_true] at hc
  simp only [aRes,if_true] at H ⊢
  split at H <;> try exact H.elim
  obtain ⟨x,hp,hk⟩:=H
  exact ⟨x,hp,Hp.sub.refl _,hk⟩
theorem aOp_commute {c:Bool} {oi oj:AO} {x:AV} {s:St} (hy:Yl P T c oi x s) (h1:∀ t,oi.dst = some t→t∉oj.looks) (h2:∀ t,oi.dst = some t→oj.dst≠some t) (h3:∀ t,oj.dst = some t→t∉oi.looks)
  (hm:c = true∨monoOp oj.op = true∨(Vya oj.op = true∧oj.pure = true)) {K:St→Prop} {X:AV→Hp→Prop} (h:aOp P T oj K X ⟨put s.tm oi.dst x,s.h⟩) :
  aOp P T oj (fun s'=>Yl P T c oi x s'∧K ⟨put s'.tm oi.dst x,s'.h⟩) X s:=by
 rw [aOp_eq] at h ⊢
 simp only at h
 rw [gw_put h1] at h
 cases hg:gw oj s.tm with
 | none=>rw [hg] at h; exact h.elim
 | some b=>
  rw [hg] at h
  cases b with
  | false=>
   simp only at h ⊢
   exact ⟨hy.keep h3 (.inr (Hp.sub.refl _)),by rw [← put_comm h2]; exact h⟩
  | true=>
   simp only [aRun] at h ⊢
   rw [aRes_congr (ρ':=ev s.tm) (fun z hz=>ev_put (looks_op h1 z hz))] at h
   rcases hm with hc | hm
   ·exact Kwa (fun y h' hk=>⟨hy.keep h3 (.inl hc),by rw [← put_comm h2]; exact hk⟩) (fun _ _ q=>q) h
   ·exact Kwa (fun y h' hk=>⟨hy.keep h3 (.inr hk.1),by rw [← put_comm h2]; exact hk.2⟩) (fun _ _ q=>q) (aRes_sub hm h)
theorem sl_looks (ops:Array Oper) (pu:List Nat) {i:Nat} {o:Oper} (h:ops[i]? = some o):(sl ops pu i).looks = o.looksAt ops:=by
 simp only [sl,h,slimO,AO.looks,Oper.looksAt]
 congr 1
 cases o.guard with
 | none=>rfl
 | some gq=>
  obtain ⟨j,want⟩:=gq
  simp only [Yjb]
  cases (ops[j]?).bind (·.dst) <;> rfl
theorem waits_spec {ops:Array Oper} {listed:Array Bool} {i n:Nat} {acc:List Nat} (h:waits ops listed i acc n = true):listed.getD n true = false∧n≠i∧∃ oj,ops[n]? = some oj∧∃ e∈oj.after,Region.binds .any e = true∧(e.on = i∨e.on∈acc):=by
 simp only [waits,Bool.and_eq_true,Bool.not_eq_true',bne_iff_ne,ne_eq] at h
 obtain ⟨⟨h1,h2⟩,h3⟩:=h
 refine ⟨h1,h2,?_⟩
 split at h3
 ·rename_i o ho
  obtain ⟨e,he,hb⟩:=Array.any_eq_true'.1 h3
  simp only [Bool.and_eq_true,Bool.or_eq_true,beq_iff_eq,List.contains_iff_mem] at hb
  exact ⟨o,ho,e,he,hb.1,hb.2⟩
 ·cases h3
theorem descs_sub {ops:Array Oper} {listed:Array Bool} {i n k:Nat} (h:k∈Xkb ops listed i n):k∈Xkb ops listed i (n+1):=by
 simp only [Xkb]; split
 ·exact List.mem_cons_of_mem _ h
 ·exact h
theorem descs_spec {ops:Array Oper} {listed:Array Bool} {i:Nat}:∀ (n:Nat),∀ j∈Xkb ops listed i n,listed.getD j true = false∧j≠i∧∃ oj,ops[j]? = some oj∧∃ e∈oj.after,Region.binds .any e = true∧(e.on = i∨e.on∈Xkb ops listed i n)
 | 0,j,h=>by simp [Xkb] at h
 | n+1,j,h=>by
  have old:j∈Xkb ops listed i n→listed.getD j true = false∧j≠i∧∃ oj,ops[j]? = some oj∧∃ e∈oj.after,Region.binds .any e = true∧(e.on = i∨e.on∈Xkb ops listed i (n+1)):=by
   intro hj
   obtain ⟨a,b,oj,c,e,d1,d2,d3⟩:=descs_spec n j hj
   exact ⟨a,b,oj,c,e,d1,d2,d3.imp id descs_sub⟩
  simp only [Xkb] at h
  split at h
  ·rename_i hc
   rcases List.mem_cons.1 h with rfl | h
   ·obtain ⟨a,b,oj,c,e,d1,d2,d3⟩:=waits_spec hc
    exact ⟨a,b,oj,c,e,d1,d2,d3.imp id descs_sub⟩
   ·exact old h
  ·exact old h
theorem aAny_first {ops:Array Oper} {pu:List Nat} {K:St→Prop} {X:AV→Hp→Prop} {c:Bool} {i:Nat} {oi:Oper} (hi:ops[i]? = some oi) {L:List Nat} (hL:∀ j∈L,∃ oj,ops[j]? = some oj∧∃ e∈oj.after,Region.binds .any e = true∧(e.on = i∨e.on∈L)) :
  ∀ (fuel:Nat) (listed:Array Bool) (s:St) (x:AV),(∀ j∈L,listed.getD j true = false) →
   (∀ j oj,ops[j]? = some oj→j≠i→listed.getD j true = false→j∉L→(∀ e∈oj.after,Region.binds .any e = true→e.on≠i)→oi.apart ops oj = true∧(c = true∨monoOp oj.op = true∨(Vya oj.op = true∧pu.contains j = true))) →
   i∈Region.ready .any ops listed→Yl P T c (sl ops pu i) x s →
   aAny P T ops pu K X fuel (listed.setIfInBounds i true) ⟨put s.tm oi.dst x,s.h⟩→aAny P T ops pu K X (fuel+1) listed s:=by
 have hdi:(sl ops pu i).dst = oi.dst:=by simp [sl,hi,slimO]
 intro fuel
 induction fuel with
 | zero=>
  intro listed s x _ _ hr hy H
  refine ⟨fun h=>(by rw [h] at hr; cases hr),fun j hj=>?_⟩
  by_cases hji:j = i
  ·subst hji; exact hy.op (by rw [hdi]; exact H)
  ·have:=ready_mono hj hji
   rw [H.1] at this
   cases this
 | succ fuel ih=>
  intro listed s x hun0 hfree hr hy H
  refine ⟨fun h=>(by rw [h] at hr; cases hr),fun j hj=>?_⟩
  by_cases hji:j = i
  ·subst hji; exact hy.op (by rw [hdi]; exact H)
  ·have h1:=H.2 j (ready_mono hj hji)
   obtain ⟨hjun,oj,hoj,hall⟩:=mem_ready.1 hj
   have hdj:(sl ops pu j).dst = oj.dst:=by simp [sl,hoj,slimO]
   have hoj':(sl ops pu j).op = oj.op:=by simp [sl,hoj,slimO]
   have hpj:(sl ops pu j).pure = pu.contains j:=by simp [sl,hoj,slimO]
   have hnot:∀ e∈oj.after,Region.binds .any e = true→e.on≠i:=fun e he hb heq=>by
    have h1:=hall e he hb
    have h0:=(mem_ready.1 hr).1
    rw [heq] at h1
    rcases Nat.lt_or_ge i listed.size with h' | h'
    ·simp [h'] at h0 h1; rw [h0] at h1; cases h1
    ·simp [Array.getElem?_eq_none h'] at h1
   have hjL:j∉L:=fun hjL=>by
    obtain ⟨oj',hoj',e,he,hb,hcase⟩:=hL j hjL
    rw [hoj] at hoj'; cases hoj'
    rcases hcase with q | q
    ·exact hnot e he hb q
    ·have h1:=hall e he hb
     have h0:=hun0 _ q
     rcases Nat.lt_or_ge e.on listed.size with h' | h'
     ·simp [h'] at h0 h1; rw [h0] at h1; cases h1
     ·simp [Array.getElem?_eq_none h'] at h1
   obtain ⟨hap,hm⟩:=hfree j oj hoj hji hjun hjL hnot
   obtain ⟨a1,a2,a3⟩:=Oper.apart_spec hap
   have h2:=aOp_commute (oi:=sl ops pu i) (oj:=sl ops pu j) (X:=X) hy (by rw [hdi,sl_looks ops pu hoj]; exact a1) (by rw [hdi,hdj]; exact a2) (by rw [hdj,sl_looks ops pu hi]; exact a3)
    (by rw [hoj',hpj]; exact hm) (by rw [hdi]; exact h1)
   have hfree':∀ k ok,ops[k]? = some ok→k≠i→(listed.setIfInBounds j true).getD k true = false→k∉L →
     (∀ e∈ok.after,Region.binds .any e = true→e.on≠i)→oi.apart ops ok = true∧(c = true∨monoOp ok.op = true∨(Vya ok.op = true∧pu.contains k = true)):=fun k ok hk hki hun hkL hno=>by
    refine hfree k ok hk hki ?_ hkL hno
    by_cases hjk:j = k
    ·subst hjk; exact hjun
    ·rw [getD_set_ne true hjk] at hun; exact hun
   have mono:∀ {o:AO} {K K':St→Prop} {s:St},(∀ s,K s→K' s)→aOp P T o K X s→aOp P T o K' X s:=by
    intro o K K' s hk q
    rw [aOp_eq] at q ⊢
    split at q
    ·exact Kwa (fun y h' z=>hk _ z) (fun _ _ z=>z) q
    ·exact hk _ q
    ·exact q
   refine mono (fun s' h3=>ih (listed.setIfInBounds j true) s' x (fun k hk=>by rw [getD_set_ne true (show j≠k from fun q=>hjL (by rw [q]; exact hk))]; exact hun0 k hk) hfree' (ready_mono hr (Ne.symm hji)) h3.1 ?_) h2
   rw [Array.setIfInBounds_comm _ _ hji]
   rw [← hdi]
   exact h3.2
theorem aOp_mono {o:AO} {K K':St→Prop} {X:AV→Hp→Prop} {s:St} (hk:∀ s,K s→K' s) (q:aOp P T o K X s):aOp P T o K' X s:=by
 rw [aOp_eq] at q ⊢
 split at q
 ·exact Kwa (fun y h' z=>hk _ z) (fun _ _ z=>z) q
 ·exact hk _ q
 ·exact q
theorem aAny_more {ops:Array Oper} {pu:List Nat} {K:St→Prop} {X:AV→Hp→Prop}:∀ (n:Nat) (listed:Array Bool) (s:St),aAny P T ops pu K X n listed s→aAny P T ops pu K X (n+1) listed s
 | 0,listed,s,h=>⟨fun _=>h.2,by rw [h.1]; simp⟩
 | n+1,listed,s,h=>⟨h.1,fun i hi=>aOp_mono (fun s' q=>aAny_more n _ s' q) (h.2 i hi)⟩
theorem aAny_le {ops:Array Oper} {pu:List Nat} {K:St→Prop} {X:AV→Hp→Prop} {n m:Nat} {listed:Array Bool} {s:St} (h:aAny P T ops pu K X n listed s) (hle:n≤m):aAny P T ops pu K X m listed s:=by
 induction hle with
 | refl=>exact h
 | step _ ih=>exact aAny_more _ _ _ ih
def Plan.depth:Plan→Nat
 | .done=>0
 | .op _ p=>p.depth+1
 | .both p q=>max p.depth q.depth
theorem firstOK_spec {ops:Array Oper} {pu:List Nat} {listed:Array Bool} {i:Nat} (h:firstOK ops pu listed i = true):∃ oi c,ops[i]? = some oi∧clsOK c (sl ops pu i)∧∃ L:List Nat,(∀ j∈L,∃ oj,ops[j]? = some oj∧∃ e∈oj.after,Region.binds .any e = true∧(e.on = i∨e.on∈L))∧(∀ j∈L,listed.getD j true = false) ∧
  ∀ j oj,ops[j]? = some oj→j≠i→listed.getD j true = false→j∉L→(∀ e∈oj.after,Region.binds .any e = true→e.on≠i)→oi.apart ops oj = true∧(c = true∨monoOp oj.op = true∨(Vya oj.op = true∧pu.contains j = true)):=by
 unfold firstOK at h
 split at h
 ·cases h
 ·rename_i oi hi
  simp only [Bool.and_eq_true,Bool.or_eq_true] at h
  obtain ⟨hf,h⟩:=h
  have hop:(sl ops pu i).op = oi.op:=by simp [sl,hi,slimO]
  have hpu:(sl ops pu i).pure = pu.contains i:=by simp [sl,hi,slimO]
  have hfree:=Region.free_spec hi hf
  rcases h with (h | h) | ⟨h,hall⟩
  ·exact ⟨oi,true,hi,.inl (by rw [hop]; exact h),[],by simp,by simp,fun j oj a b c _ d=>⟨hfree j oj a b c d,.inl rfl⟩⟩
  ·exact ⟨oi,true,hi,.inr ⟨by rw [hop]; simpa using h.1,by rw [hpu]; exact h.2⟩,[],by simp,by simp,fun j oj a b c _ d=>⟨hfree j oj a b c d,.inl rfl⟩⟩
  ·refine ⟨oi,false,hi,by show isLoad _ = true; rw [hop]; exact h,Xkb ops listed i ops.size,fun j hj=>(descs_spec _ j hj).2.2,fun j hj=>(descs_spec _ j hj).1,fun j oj a b c c2 d=>⟨hfree j oj a b c d,.inr ?_⟩⟩
   rw [List.all_eq_true] at hall
   have:=hall j (List.mem_range.2 (Array.getElem?_eq_some_iff.1 a).1)
   simp only [a,Bool.or_eq_true,beq_iff_eq,b,c,Bool.false_eq_true,false_or,or_false,Bool.and_eq_true,List.contains_iff_mem,c2] at this
   rcases this with (this | this) | this
   ·obtain ⟨e,he,hb⟩:=Array.any_eq_true'.1 this
    simp only [Bool.and_eq_true,beq_iff_eq] at hb
    exact absurd hb.2 (d e he hb.1)
   ·exact .inl this
   ·exact .inr ⟨this.1,by simpa using this.2⟩
mutual
theorem plan_any {ops:Array Oper} {pu:List Nat} {K:St→Prop} {X:AV→Hp→Prop}:∀ (p:Plan) (listed:Array Bool) (s:St),Jwa ops pu listed p = true→Ypa P T (sl ops pu) K X p s→aAny P T ops pu K X p.depth listed s
 | .done,listed,s,hp,h=>by
  simp only [Jwa,List.isEmpty_iff] at hp
  exact ⟨hp,h⟩
 | .op i p,listed,s,hp,h=>by
  simp only [Jwa,Bool.and_eq_true,Bool.or_eq_true,beq_iff_eq] at hp
  obtain ⟨hp1,hp2⟩:=hp
  simp only [Ypa] at h
  have h':=aOp_mono (fun s' q=>plan_any p _ s' hp2 q) h
  rcases hp1 with e | ⟨e1,e2⟩
  ·refine ⟨fun q=>(by rw [e] at q; cases q),fun j hj=>?_⟩
   rw [e] at hj
   simp at hj
   subst hj
   exact h'
  ·obtain ⟨oi,c,hi,hcls,L,hL1,hL2,hfree⟩:=firstOK_spec e2
   obtain ⟨x,hy,hk⟩:=first_yields hcls h'
   have hdi:(sl ops pu i).dst = oi.dst:=by simp [sl,hi,slimO]
   rw [hdi] at hk
   exact aAny_first hi hL1 _ listed s x hL2 hfree (by simpa using e1) hy hk
 | .both p q,listed,s,hp,h=>by
  simp only [Jwa,Bool.and_eq_true,List.all_eq_true,Bool.or_eq_true] at hp
  obtain ⟨⟨⟨hne,hall⟩,hp1⟩,hp2⟩:=hp
  simp only [Ypa] at h
  have key:∀ i∈Region.ready .any ops listed,∃ n,n+1≤(Plan.both p q).depth∧aOp P T (sl ops pu i) (aAny P T ops pu K X n (listed.setIfInBounds i true)) X s:=by
   intro i hi
   rcases hall i hi with e | e
   ·obtain ⟨n,a,b⟩:=alt_any p listed s hp1 h.1 i (by simpa using e)
    exact ⟨n,by simp only [Plan.depth]; omega,b⟩
   ·obtain ⟨n,a,b⟩:=alt_any q listed s hp2 h.2 i (by simpa using e)
    exact ⟨n,by simp only [Plan.depth]; omega,b⟩
  obtain ⟨m,hm⟩:∃ m,(Plan.both p q).depth = m+1:=by
   cases hr:Region.ready .any ops listed with
   | nil=>rw [hr] at hne; simp at hne
   | cons i is=>obtain ⟨n,a,_⟩:=key i (by rw [hr]; simp); exact ⟨(Plan.both p q).depth - 1,by omega⟩
  rw [hm]
  refine ⟨fun e=>(by rw [e] at hne; simp at hne),fun i hi=>?_⟩
  obtain ⟨n,a,b⟩:=key i hi
  exact aOp_mono (fun s' q=>aAny_le q (by omega)) b
theorem alt_any {ops:Array Oper} {pu:List Nat} {K:St→Prop} {X:AV→Hp→Prop}:∀ (p:Plan) (listed:Array Bool) (s:St),altOK ops pu listed p = true→Ypa P T (sl ops pu) K X p s→∀ i∈p.heads,∃ n,n+1≤p.depth∧aOp P T (sl ops pu i) (aAny P T ops pu K X n (listed.setIfInBounds i true)) X s
 | .done,listed,s,hp,h,i,hi=>by simp [Plan.heads] at hi
 | .op j p,listed,s,hp,h,i,hi=>by
  simp only [altOK] at hp
  simp only [Plan.heads,List.mem_singleton] at hi
  subst hi
  simp only [Ypa] at h
  exact ⟨p.depth,by simp [Plan.depth],aOp_mono (fun s' q=>plan_any p _ s' hp q) h⟩
 | .both p q,listed,s,hp,h,i,hi=>by
  simp only [altOK,Bool.and_eq_true] at hp
  simp only [Ypa] at h
  simp only [Plan.heads,List.mem_append] at hi
  rcases hi with hi | hi
  ·obtain ⟨n,a,b⟩:=alt_any p listed s hp.1 h.1 i hi
   exact ⟨n,by simp only [Plan.depth]; omega,b⟩
  ·obtain ⟨n,a,b⟩:=alt_any q listed s hp.2 h.2 i hi
   exact ⟨n,by simp only [Plan.depth]; omega,b⟩
end
end
end Go.Proofs.YtpkhmfedaaoalaaGreatDoor.AM
