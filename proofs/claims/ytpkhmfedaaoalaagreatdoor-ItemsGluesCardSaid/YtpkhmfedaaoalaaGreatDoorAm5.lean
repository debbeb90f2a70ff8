/- ItemsGlues: a part of its proof (packed by a program). -/
import Derived.Test.YtpkhmfedaaoalaaGreatDoorAm3
import Derived.Laws.MakeOwn
import Derived.RangeFuncNested
set_option linter.all false
namespace Go.Proofs.YtpkhmfedaaoalaaGreatDoor.AM
open Go
inductive AE where
 | ret (x:AV)
 | pan (x:AV)
def callable (P:Program) (f:Nat):Prop:=∃ fn,P.funcs[f]? = some fn∧(fn.name == "runtime.NumGoroutine") = false∧fn.body.isNone = false
def Zo (P:Program) (f:Nat) (args:List AV) (h:Hp) (Q:AE→Hp→Prop):Prop:=
 callable P f∧∀ (g:Gh) (w:World) (vs:Array Value),VRs g args vs.toList→HR g h w →
  Calls P f vs w fun e w'=>∃ g' h' E,g.le g'∧HR g' h' w'∧Q E h'∧match E,e with
   | .ret x,.returned v=>VR g' x v
   | .pan x,.panicked chain=>∃ v,chain = [{ v,recovered:=false }]∧VR g' x v
   | _,_=>False
def Kya (P:Program) (f:Nat) (args:List AV) (x:AV):Prop:=∀ h,Zo P f args h fun e h'=>e = .ret x∧h' = h
theorem Zo.mono {P:Program} {f:Nat} {args:List AV} {h:Hp} {Q Q':AE→Hp→Prop} (k:Zo P f args h Q) (hq:∀ e h',Q e h'→Q' e h'):Zo P f args h Q':=
 ⟨k.1,fun g w vs hv hh=>(k.2 g w vs hv hh).mono fun e w' ⟨g',h',E,a,b,c,d⟩=>⟨g',h',E,a,b,hq _ _ c,d⟩⟩
def Fr (r:Option Nat):Fence:={ Fence.wide with round:=r }
def AYield (P:Program) (gb:Gh) (l:Nat) (args:List AV) (h:Hp) (K:AV→Hp→Prop):Prop:=
 ∀ (g:Gh) (w:World) (vs:Array Value),gb.cle g→VRs g args vs.toList→HR g h w →
  YieldAt Fence.wide 0 P l vs w fun e w'=>∃ g' h' x v,e = .returned v∧g.le g'∧HR g' h' w'∧VR g' x v∧K x h'
theorem AYield.mono {P:Program} {gb:Gh} {l:Nat} {args:List AV} {h:Hp} {K K':AV→Hp→Prop} (k:AYield P gb l args h K) (hk:∀ x h',K x h'→K' x h'):AYield P gb l args h K':=
 fun g w vs hgb hv hh=>by
  obtain ⟨fn,tm,as_,bd,a,b⟩:=k g w vs hgb hv hh
  exact ⟨fn,tm,as_,bd,a,b.mono fun e w' ⟨g',h',x,v,c,d,e',f,q⟩=>⟨g',h',x,v,c,d,e',f,hk _ _ q⟩⟩
def yieldOf (op:Op) (ρ:Operand→AV):Option (Nat×Gh):=match op with
 | .call ⟨.value f,_,_⟩=>match ρ f with
  | .yld l gb=>some (l,gb)
  | _=>none
 | _=>none
def aSrc (sz:Nat) (kx:TK) (x:AV) (h:Hp):Option (List (List AV)):=
 match kx,x with
 | .sl _,.isl sz' rows=>if sz' = sz then some rows else none
 | .sl _,.osl b sz' off len=>match h b with
  | some o=>if sz' = sz∧o.sz = sz∧off+len≤o.rows.length then some ((o.rows.drop off).take len) else none
  | none=>none
 | .sl _,.val (.slice none 0 0)=>some []
 | .str,.val (.string s)=>if sz = 1 then some (s.data.toList.map fun b=>[Yab b.toNat]) else none
 | _,_=>none
def aDst (sz:Nat) (s:AV) (h:Hp):Option (List (List AV)×Option (Nat×Option (Nat×Nat))):=
 match s with
 | .val (.slice none 0 0)=>some ([],none)
 | .osl b sz' 0 len=>match h b with
  | some o=>if sz' = sz∧o.sz = sz∧len≤o.rows.length then some (o.rows.take len,some (b,o.ty)) else none
  | none=>none
 | _=>none
def Kxa (T:Tab) (t tx:Nat) (s x:AV) (h:Hp) (k:AV→Hp→Prop):Prop:=
 match T t,T tx with
 | some ti,some tix=>match ti.kind with
  | .sl e=>match T e with
   | some ei=>match aDst ei.size s h,aSrc ei.size tix.kind x h with
    | some (rs,ob),some xs=>
     (rs.length+xs.length) * ei.bytes≤140737488355328∧0 < ei.size∧0 < ei.bytes ∧
     match ob with
     | none=>(xs = []→k anil h)∧(xs≠[]→∀ b,h b = none→k (.osl b ei.size 0 xs.length) (h.upd b ⟨ei.size,xs,some (e,0)⟩))
     | some (b0,ty)=>∀ b,h.del b0 b = none→k (.osl b ei.size 0 (rs.length+xs.length)) ((h.del b0).upd b ⟨ei.size,rs++xs,Kn e ty⟩)
    | _,_=>False
   | none=>False
  | _=>False
 | _,_=>False
def nilCmp (T:Tab) (op:BinOp) (t:Nat) (x:AV) (y:Operand) (h:Hp) (k:AV→Hp→Prop):Prop:=
 match T t with
 | some ti=>match ti.kind,op,x,y with
  | .sl _,.eql,.isl _ rows,.const (.slice none 0 0)=>(rows = []→k (Zk true) h)∧k (Zk false) h
  | .sl _,.neq,.isl _ rows,.const (.slice none 0 0)=>(rows = []→k (Zk false) h)∧k (Zk true) h
  | _,_,_,_=>False
 | none=>False
def aClear (T:Tab) (t:Nat) (x:AV) (h:Hp) (k:AV→Hp→Prop):Prop:=
 match T t with
 | some ti=>match ti.kind,x with
  | .sl e,.osl b sz off len=>match T e,h b with
   | some ei,some o=>o.sz = sz∧ei.size = sz∧off+len≤o.rows.length∧k (.tup []) (h.upd b ⟨sz,o.rows.take off++(List.replicate len (ei.zero.map .val)++o.rows.drop (off+len)),o.ty⟩)
   | _,_=>False
  | .sl _,.val (.slice none 0 0)=>k (.tup []) h
  | .sl _,.isl _ []=>k (.tup []) h
  | _,_=>False
 | none=>False
def bytesOf:List (List AV)→Option (List UInt8)
 | []=>some []
 | [.val (.int .u8 n)] :: rs=>match bytesOf rs with
  | some l=>some (UInt8.ofNat n.toNat :: l)
  | none=>none
 | _ :: _=>none
def Ybb (T:Tab) (s d:Nat) (x:AV) (h:Hp):Option AV:=
 match T s,T d with
 | some si,some di=>match si.kind,di.kind with
  | .sl e,.str=>match T e with
   | some ei=>match ei.kind,aSrc 1 si.kind x h with
    | .int .u8,some rows=>match bytesOf rows with
     | some l=>some (astr ⟨l.toArray⟩)
     | none=>none
    | _,_=>none
   | none=>none
  | _,_=>none
 | _,_=>none
def Zhb (T:Tab) (s d:Nat) (x:AV) (h:Hp) (k:AV→Hp→Prop):Prop:=
 match T s,T d,x with
 | some si,some di,.val (.string t)=>match si.kind,di.kind with
  | .str,.sl e=>match T e with
   | some ei=>ei.kind = .int .u8∧ei.size = 1∧∀ b,h b = none→k (.osl b 1 0 t.size) (h.upd b ⟨1,t.data.toList.map fun c=>[Yab c.toNat],some (e,0)⟩)
   | none=>False
  | _,_=>False
 | _,_,_=>False
def Z5:Nat→List (Value×Value)→List MapEntry
 | _,[]=>[]
 | n,(k,v) :: l=>{ key:=k,val:=v,born:=n } :: Z5 (n+1) l
def Yo (l:List (Value×Value)):Obj:=.map (Z5 0 l).toArray l.length
def mapOf:Obj→Option (List (Value×Value))
 | .map es clk=>if es.toList.map (·.born) = List.range' 0 es.toList.length∧clk = es.toList.length then some (es.toList.map fun e=>(e.key,e.val)) else none
 | _=>none
theorem Wya:∀ (n:Nat) (l:List (Value×Value)),(Z5 n l).length = l.length
 | _,[]=>rfl
 | n,p :: l=>by simp [Z5,Wya (n+1) l]
theorem V3a:∀ (n:Nat) (l:List (Value×Value)),((Z5 n l).map fun e=>(e.key,e.val)) = l
 | _,[]=>rfl
 | n,p :: l=>by simp [Z5,V3a (n+1) l]
theorem Zba:∀ (n:Nat) (l:List (Value×Value)),(Z5 n l).map (·.born) = List.range' n l.length
 | _,[]=>rfl
 | n,p :: l=>by simp [Z5,Zba (n+1) l,List.range'_succ]
theorem entriesOf_of:∀ (n:Nat) (l:List MapEntry),l.map (·.born) = List.range' n l.length→Z5 n (l.map fun e=>(e.key,e.val)) = l
 | _,[],_=>rfl
 | n,e :: l,h=>by
  simp only [List.map_cons,List.length_cons,List.range'_succ,List.cons.injEq] at h
  simp only [List.map_cons,Z5,entriesOf_of (n+1) l h.2,List.cons.injEq,and_true]
  rw [← h.1]
theorem Z5a (l:List (Value×Value)):mapOf (Yo l) = some l:=by
 simp [mapOf,Yo,V3a,Wya,Zba]
theorem Yyb {o:Obj} {l:List (Value×Value)} (h:mapOf o = some l):o = Yo l:=by
 cases o <;> simp only [mapOf] at h <;> try cases h
 rename_i es clk
 split at h <;> cases h
 rename_i h1
 obtain ⟨h1,h2⟩:=h1
 subst h2
 unfold Yo
 rw [entriesOf_of 0 _ h1]
 simp
theorem notCells_map (l:List (Value×Value)):Kf (Yo l) = true:=rfl
def sameK:TK→Value→Value→Option Bool
 | .int _,.int k a,.int k' b=>if k = k' then some (a == b) else none
 | .str,.string a,.string b=>some (a == b)
 | _,_,_=>none
def keyK:TK→Value→Bool
 | .int k,.int k' _=>k' = k
 | .str,.string _=>true
 | _,_=>false
def W4a (ki:TI) (a b:Value):Option Bool:=
 match ki.kind,ki.eqs with
 | .struct _,some es=>match a,b with
  | .agg us,.agg vs=>if us.all Value.oneCell' && vs.all Value.oneCell' then match aeqs es (us.toList.map .val) (vs.toList.map .val) with
    | some true=>if Instr.sameBits 10000 (.agg vs) (.agg us) then some true else none
    | r=>r
   else none
  | _,_=>none
 | k,_=>sameK k a b
def keyT (ki:TI) (a:Value):Bool:=
 match ki.kind,ki.eqs with
 | .struct _,some es=>match a with
  | .agg us=>es.all (fun p=>decide (p.1 < us.size))
  | _=>false
 | k,_=>keyK k a
def Yba (same:Value→Value→Option Bool) (k:Value):List (Value×Value)→Nat→Option (Option (Nat×Value))
 | [],_=>some none
 | (k',v) :: l,i=>match same k k' with
  | some true=>some (some (i,v))
  | some false=>Yba same k l (i+1)
  | none=>none
def lookNow (ki:TI):List (Value×Value)→Value→Option (Option Value)
 | [],_=>some none
 | (k',v) :: l,k=>match W4a ki k k' with
  | some true=>some (some v)
  | some false=>lookNow ki l k
  | none=>none
def updNow (ki:TI):List (Value×Value)→Value→Value→Option (List (Value×Value))
 | [],k,x=>some [(k,x)]
 | (k',v) :: l,k,x=>match W4a ki k k' with
  | some true=>some ((k,x) :: l)
  | some false=>match updNow ki l k x with
   | some l'=>some ((k',v) :: l')
   | none=>none
  | none=>none
def vOf:AV→Option Value
 | .val v=>some v
 | _=>none
def fixV:AV→Option Value
 | .val v=>some v
 | .optr b sz r c=>some (.pointer (some ⟨b,r * sz+c,none⟩))
 | .agg cs=>match cs.mapM vOf with
  | some vs=>some (.agg vs.toArray)
  | none=>none
 | _=>none
def atMap (h:Hp):Value→Option (List (Value×Value))
 | .map none=>some []
 | .map (some b)=>match h.r b with
  | some o=>mapOf o
  | none=>none
 | _=>none
def slK:TK→Bool
 | .sl _=>true
 | _=>false
def rowAV (h:Hp) (v:Value):AV:=match v with
 | .slice (some ⟨b,0,none⟩) n cap=>match h b with
  | some o=>match o.ty with
   | some (_,m)=>if m≠0∧n≤cap∧cap * o.sz≤m then .osl b o.sz 0 n else Y3 v
   | none=>Y3 v
  | none=>Y3 v
 | v=>Y3 v
def mapAV (ei:TI) (h:Hp) (v:Value):AV:=if slK ei.kind then rowAV h v else Y3 v
def aLook (T:Tab) (t:Nat) (x i:AV) (ok:Bool) (h:Hp) (k:AV→Hp→Prop):Prop:=
 match T t,x,fixV i with
 | some ti,.val m,some i=>match ti.kind with
  | .map kt et=>match T kt,T et with
   | some ki,some ei=>keyT ki i = true∧match atMap h m with
    | some l=>match lookNow ki l i with
     | some (some v)=>k (if ok then .tup [mapAV ei h v,Zk true] else mapAV ei h v) h
     | some none=>k (if ok then .tup [Y3 (Xza ei),Zk false] else Y3 (Xza ei)) h
     | none=>False
    | none=>False
   | _,_=>False
  | _=>False
 | _,_,_=>False
def aUpdV (T:Tab) (t:Nat) (x i:AV) (v:Value) (h:Hp) (k:AV→Hp→Prop):Prop:=
 match T t,x,fixV i with
 | some ti,.val (.map (some b)),some i=>match ti.kind,h.r b with
  | .map kt _,some o=>match T kt,mapOf o with
   | some ki,some l=>keyT ki i = true∧match updNow ki l i v with
    | some l'=>k .any (h.updR b (Yo l'))
    | none=>False
   | _,_=>False
  | _,_=>False
 | _,_,_=>False
def aUpd (T:Tab) (t:Nat) (x i v:AV) (h:Hp) (k:AV→Hp→Prop):Prop:=
 match fixV v,v with
 | some v,_=>aUpdV T t x i v h k
 | none,.osl b sz 0 n=>match h b with
  | some o=>match o.ty with
   | some (e,_)=>o.sz = sz∧0 < n∧0 < sz∧∀ cap m,n≤cap→cap * sz≤m→aUpdV T t x i (.slice (some ⟨b,0,none⟩) n cap) (h.upd b ⟨o.sz,o.rows,some (e,m)⟩) k
   | none=>False
  | none=>False
 | _,_=>False
def Vg (b n:Nat) (seen:Array Nat):Obj:=.mapIter (some b) n seen n
def Y9a (n:Nat) (seen:Array Nat):List Nat:=(List.range n).filter fun i=>!seen.contains i
def X3b (T:Tab) (t:Nat) (x:AV) (h:Hp) (k:AV→Hp→Prop):Prop:=
 match T t,x with
 | some ti,.val (.map (some b))=>match ti.kind,h.r b with
  | .map _ _,some o=>match mapOf o with
   | some l=>∀ r,h.r r = none→k (.val (.pointer (some ⟨r,0,none⟩))) (h.updR r (Vg b l.length #[]))
   | none=>False
  | _,_=>False
 | some ti,.val (.string s)=>match ti.kind with
  | .str=>∀ r,h.r r = none→k (.val (.pointer (some ⟨r,0,none⟩))) (h.updR r (.stringIter s 0))
  | _=>False
 | _,_=>False
def aNextS (x:AV) (h:Hp) (k:AV→Hp→Prop):Prop:=
 match x with
 | .val (.pointer (some ⟨r,0,none⟩))=>match h.r r with
  | some (.stringIter s pos)=>if pos < s.size then k (.tup [Zk true,aint pos,.val (.int .i32 (Utf8.decode s pos).1)]) (h.updR r (.stringIter s (pos+(Utf8.decode s pos).2))) else k (.tup [Zk false]) h
  | _=>False
 | _=>False
def iterAt (h:Hp):AV→Option (Nat×Nat×Nat×Array Nat×List (Value×Value))
 | .val (.pointer (some ⟨r,0,none⟩))=>match h.r r with
  | some (.mapIter (some b) n seen c)=>match h.r b with
   | some o=>match mapOf o with
    | some l=>if n = l.length∧c = l.length then some (r,b,n,seen,l) else none
    | none=>none
   | none=>none
  | _=>none
 | _=>none
def aNext (x:AV) (h:Hp) (k:AV→Hp→Prop):Prop:=
 match iterAt h x with
 | some (r,b,n,seen,l)=>(Y9a n seen = []→k (.tup [Zk false]) h) ∧
   ∀ i∈Y9a n seen,∀ p,l[i]? = some p→k (.tup [Zk true,Y3 p.1,Y3 p.2]) (h.updR r (Vg b n (seen.push i)))
 | none=>False
def aEntry (x:AV) (h:Hp) (k:AV→Hp→Prop):Prop:=
 match iterAt h x with
 | some (r,b,n,seen,l)=>match seen.back? with
  | some i=>match l[i]? with
   | some p=>k (.tup [Y3 p.1,Y3 p.2]) h
   | none=>False
  | none=>False
 | none=>False
def Jqa (sz:Nat):List (List AV)→List (Nat×AV)→Option (List (List AV))
 | rows,[]=>some rows
 | rows,(i,x) :: rest=>if x.okCells = true∧x.cells.length = sz∧i < rows.length then Jqa sz (rows.set i x.cells) rest else none
def aRes (P:Program) (T:Tab) (pure:Bool) (op:Op) (ρ:Operand→AV) (h:Hp) (k:AV→Hp→Prop) (X:AV→Hp→Prop):Prop:=
 match op with
 | .alloc t=>match T t with
  | some ti=>∀ b,h b = none→k (.optr b ti.size 0 0) (h.upd b ⟨ti.size,[ti.zero.map .val],some (t,ti.size)⟩)
  | none=>False
 | .box t x=>match T t with
  | some ti=>(ρ x).okCells = true∧(ρ x).cells.length = ti.size∧∀ b,h b = none→k (.optr b ti.size 0 0) (h.upd b ⟨ti.size,[(ρ x).cells],some (t,ti.size)⟩)
  | none=>False
 | .load t x=>match ρ x with
  | .optr b sz i c=>if pure = true then False else match T t,h b with
   | some ti,some o=>match o.rows[i]? with
    | some r=>o.sz = sz∧match apart ti r c with
     | some y=>k y h
     | none=>False
    | none=>False
   | _,_=>False
  | y=>match aloadI T t y with
   | some z=>k z h
   | none=>False
 | .store t p x=>match T t,ρ p with
  | some ti,.optr b sz i c=>match h b with
   | some o=>match o.rows[i]? with
    | some r=>o.sz = sz∧(ρ x).okCells = true∧(ρ x).cells.length = ti.size∧c+ti.size≤r.length ∧
      k .any (h.upd b ⟨sz,o.rows.set i (r.take c++(ρ x).cells++r.drop (c+ti.size)),o.ty⟩)
    | none=>False
   | none=>False
  | _,_=>False
 | .buildSlice t len parts=>match T t with
  | some ti=>match ti.kind with
   | .sl e=>match T e with
    | some ei=>0 < ei.size∧len * ei.size≤16777216∧match Jqa ei.size (List.replicate len (ei.zero.map .val)) (parts.toList.map fun p=>(p.1,ρ p.2)) with
     | some rows=>∀ b,h b = none→k (.osl b ei.size 0 len) (h.upd b ⟨ei.size,rows,some (e,0)⟩)
     | none=>False
    | none=>False
   | _=>False
  | none=>False
 | .makeSlice t l c=>match T t,ρ l,ρ c with
  | some ti,.val (.int _ m),.val (.int _ n)=>match ti.kind with
   | .sl e=>match T e with
    | some ei=>0 < ei.size∧0≤m∧m≤n∧(ei.bytes:Int) * n≤281474976710656∧n≤9223372036854775807 ∧
      ∀ b,h b = none→k (.osl b ei.size 0 m.toNat) (h.upd b ⟨ei.size,List.replicate m.toNat (ei.zero.map .val),some (e,0)⟩)
    | none=>False
   | _=>False
  | _,_,_=>False
 | .call ⟨.builtin .append,args,tys⟩=>match args.toList,tys.toList with
  | [s,x],[t,tx]=>Kxa T t tx (ρ s) (ρ x) h k
  | _,_=>False
 | .call ⟨.value f,args,_⟩=>match ρ f with
  | .fn (.func n) first caps=>
   if pure = true then ∃ x,Kya P n (first++args.toList.map ρ++caps) x∧k x h
   else Zo P n (first++args.toList.map ρ++caps) h fun e h'=>match e with
    | .ret x=>k x h'
    | .pan x=>X x h'
  | .yld l gb=>if pure = true then False else AYield P gb l (args.toList.map ρ) h k
  | _=>False
 | .panic x=>match ρ x with
  | .ifc t y=>X (.ifc t y) h
  | _=>False
 | .call ⟨.builtin .clear,args,tys⟩=>match args.toList,tys.toList with
  | [x],[t]=>aClear T t (ρ x) h k
  | _,_=>False
 | .makeMap t none=>match T t with
  | some ti=>match ti.kind with
   | .map _ _=>∀ b,h.r b = none→k (.val (.map (some b))) (h.updR b (Yo []))
   | _=>False
  | none=>False
 | .lookup t x i ok=>aLook T t (ρ x) (ρ i) ok h k
 | .mapUpdate t m i x=>aUpd T t (ρ m) (ρ i) (ρ x) h k
 | .range t x=>X3b T t (ρ x) h k
 | .next x false=>aNext (ρ x) h k
 | .next x true=>aNextS (ρ x) h k
 | .entry x=>aEntry (ρ x) h k
 | .binOp op t x y yt=>match Wz T (.binOp op t x y yt) ρ with
  | some z=>k z h
  | none=>nilCmp T op t (ρ x) y h k
 | .convert s d x=>match Wz T (.convert s d x) ρ with
  | some z=>k z h
  | none=>match Ybb T s d (ρ x) h with
   | some z=>k z h
   | none=>Zhb T s d (ρ x) h k
 | op=>match Wz T op ρ with
  | some x=>k x h
  | none=>False
section
variable {P:Program} {T:Tab} {g:Gh} {h:Hp} {w:World}
theorem HR.fresh (k:HR g h w):h w.heap.size = none∧g.fz w.heap.size = none∧g.shp w.heap.size = none:=by
 have none_:∀ o:Obj,w.heap[w.heap.size]?≠some o:=fun o e=>by simp at e
 refine ⟨?_,?_,?_⟩
 ·cases e:h w.heap.size with
  | none=>rfl
  | some o=>obtain ⟨_,c,t,⟨_,hc,_⟩,_⟩:=k.ob _ o e; exact absurd hc (none_ _)
 ·cases e:g.fz w.heap.size with
  | none=>rfl
  | some o=>exact absurd (k.fz _ o e) (none_ _)
 ·cases e:g.shp w.heap.size with
  | none=>rfl
  | some o=>
   have:=k.shp _ o e
   simp [World.shape?] at this
def Gh.new (g:Gh) (b:Nat) (x:TypeId×Nat):Gh:={ g with shp:=fun k=>if k = b then some x else g.shp k }
theorem Gh.new_le {g:Gh} {b:Nat} {x:TypeId×Nat} (h:g.shp b = none):g.le (g.new b x):=
 ⟨rfl,fun _ _ h=>h,fun k y hk=>by
  simp only [Gh.new]
  rw [if_neg]; exact hk
  intro e; subst e; rw [h] at hk; cases hk⟩
theorem HR.alloc (k:HR g h w) {c:Array Value} {e:TypeId} {sz:Nat} {rows:List (List AV)} (hr:Z0 g c sz 0 rows) (ty:Option (Nat×Nat)) (hty:TyOK (some (e,c.size)) ty) :
  g.le (g.new w.heap.size (e,c.size))∧HR (g.new w.heap.size (e,c.size)) (h.upd w.heap.size ⟨sz,rows,ty⟩) (w.alloc (.cells c e)):=by
 obtain ⟨f1,f2,f3⟩:=k.fresh
 have hle:g.le (g.new w.heap.size (e,c.size)):=Gh.new_le f3
 have old:∀ (b:Nat) (o:Obj),w.heap[b]? = some o→(w.alloc (.cells c e)).heap[b]? = some o:=fun b o hb=>by
  have hlt:=(Array.getElem?_eq_some_iff.1 hb).1
  show (w.heap.push _)[b]? = _
  rw [Array.getElem?_push,if_neg (by omega)]; exact hb
 have new:(w.alloc (.cells c e)).heap[w.heap.size]? = some (.cells c e):=by
  show (w.heap.push _)[w.heap.size]? = _
  simp
 refine ⟨hle,?_⟩
 constructor
 ·exact k.os
 ·exact k.tape
 ·exact k.output
 ·show g.w0.heap.size≤_
  rw [World.size_alloc]; have:=k.size; omega
 ·exact fun b o hb=>old b o (k.fz b o hb)
 ·intro b x hb
  simp only [Gh.new] at hb
  split at hb
  ·rename_i e1; subst e1; cases hb
   simp only [World.shape?,new]
  ·have h1:=k.shp b x hb
   have:(w.alloc (.cells c e)).heap[b]? = w.heap[b]?:=by
    cases e2:w.heap[b]? with
    | none=>simp [World.shape?,e2] at h1
    | some o=>exact old b o e2
   simpa only [World.shape?,this] using h1
 ·intro b o hb
  simp only [Hp.upd] at hb
  split at hb
  ·rename_i e1; subst e1; cases hb
   exact ⟨⟨f2,by simp only [Gh.new,if_true]; exact hty⟩,c,e,.plain new,by simp [Gh.new],hr.mono hle c sz 0 rows⟩
  ·rename_i hne
   obtain ⟨a1,c',e',a2,a3,a4⟩:=k.ob b o hb
   exact ⟨⟨a1.1,a1.2.mono fun y hy=>hle.shp _ _ hy⟩,c',e',a2.of (old b),by simp only [Gh.new]; rw [if_neg hne]; exact a3,a4.mono hle c' o.sz 0 o.rows⟩
 ·exact Z9a hle.fz k.gl
 ·exact fun b o hb=>⟨⟨old b o (k.raw b o hb).1.1,(k.raw b o hb).1.2⟩,(k.raw b o hb).2⟩
theorem HR.set (k:HR g h w) {b:Nat} {o:Ob} (hb:h b = some o) {c:Array Value} {e:TypeId} {fr:Nat×Nat} (hc:w.heap[b]? = some (.cells c e fr)) {c':Array Value} (hs:c'.size = c.size) {rows:List (List AV)} {sz:Nat}
  (hr:Z0 g c' sz 0 rows) (ty:Option (Nat×Nat)) (hty:TyOK (g.shp b) o.ty→TyOK (g.shp b) ty):HR g (h.upd b ⟨sz,rows,ty⟩) (w.setRow b c'):=by
 obtain ⟨q1,c0,e0,⟨fr0,q2,qt⟩,q3,q4⟩:=k.ob b o hb
 rw [hc] at q2; cases q2
 have same:=setRow_heap w b c c' e fr hc
 have old:∀ x,x≠b→(w.setRow b c').heap[x]? = w.heap[x]?:=fun x hx=>setRow_other w b x c' hx
 constructor
 ·exact k.os
 ·exact k.tape
 ·exact k.output
 ·rw [size_setRow]; exact k.size
 ·intro x y hx
  rw [old x]; exact k.fz x y hx
  intro e1; subst e1; rw [q1.1] at hx; cases hx
 ·intro x y hx
  by_cases e1:x = b
  ·subst e1
   have:=k.shp x y hx
   simp only [World.shape?,hc] at this
   simp only [World.shape?,same,hs]; exact this
  ·simpa only [World.shape?,old x e1] using k.shp x y hx
 ·intro x y hx
  simp only [Hp.upd] at hx
  split at hx
  ·rename_i e1; subst e1; cases hx
   exact ⟨⟨q1.1,hty q1.2⟩,c',e,⟨fr,same,by rw [hs]; exact qt⟩,by rw [hs]; exact q3,hr⟩
  ·rename_i hne
   obtain ⟨a1,c2,e2,a2,a3,a4⟩:=k.ob x y hx
   exact ⟨a1,c2,e2,a2.of fun o ho=>by rw [old x hne]; exact ho,a3,a4⟩
 ·exact k.gl
 ·intro x y hx
  have hk:=k.raw x y hx
  have hne:x≠b:=by
   rintro rfl
   rw [hc] at hk
   cases hk.1.1; simp [Kf] at hk
  rw [old x hne]; exact hk
theorem HR.allocRaw (k:HR g h w) {o:Obj} (hn:Kf o = true):HR g (h.updR w.heap.size o) (w.alloc o):=by
 obtain ⟨f1,f2,f3⟩:=k.fresh
 have old:∀ (b:Nat) (o':Obj),w.heap[b]? = some o'→(w.alloc o).heap[b]? = some o':=fun b o' hb=>by
  have hlt:=(Array.getElem?_eq_some_iff.1 hb).1
  show (w.heap.push _)[b]? = _
  rw [Array.getElem?_push,if_neg (by omega)]; exact hb
 have new:(w.alloc o).heap[w.heap.size]? = some o:=by
  show (w.heap.push _)[w.heap.size]? = _
  simp
 constructor
 ·exact k.os
 ·exact k.tape
 ·exact k.output
 ·show g.w0.heap.size≤_
  rw [World.size_alloc]; have:=k.size; omega
 ·exact fun b o hb=>old b o (k.fz b o hb)
 ·intro b x hb
  have h1:=k.shp b x hb
  have:(w.alloc o).heap[b]? = w.heap[b]?:=by
   cases e2:w.heap[b]? with
   | none=>simp [World.shape?,e2] at h1
   | some o=>exact old b o e2
  simpa only [World.shape?,this] using h1
 ·intro b o' hb
  obtain ⟨a1,c',e',a2,a3,a4⟩:=k.ob b o' hb
  exact ⟨a1,c',e',a2.of (old b),a3,a4⟩
 ·exact k.gl
 ·intro b o' hb
  by_cases e:b = w.heap.size
  ·subst e
   rw [Hp.updR_same] at hb; cases hb
   exact ⟨⟨new,hn⟩,f2⟩
  ·rw [Hp.updR_ne _ _ e] at hb
   obtain ⟨⟨a1,a2⟩,a3⟩:=k.raw b o' hb
   exact ⟨⟨old b o' a1,a2⟩,a3⟩
theorem HR.freshR (k:HR g h w):h.r w.heap.size = none:=by
 cases e:h.r w.heap.size with
 | none=>rfl
 | some o=>have:=(k.raw _ o e).1.1; simp at this
theorem HR.turn {g':Gh} {h':Hp} (k:HR g h w) {b:Nat} {o o':Obj} (hb:w.heap[b]? = some o) (hn:Kf o = true) (hw0:g'.w0 = g.w0) (hf:∀ x y,g'.fz x = some y→x≠b∧g.fz x = some y) (hs:g'.shp = g.shp) (hgl:Glob g'.fz) (hc:∀ x y,h' x = some y→h x = some y∧(∀ c e,VR g c e→VR g' c e))
  (hr:∀ x y,h'.r x = some y→(x≠b∧h.r x = some y)∨(x = b∧y = o'∧Kf o' = true∧g'.fz b = none)):HR g' h' (w.putObj b o'):=by
 have old:∀ x,x≠b→(w.putObj b o').heap[x]? = w.heap[x]?:=fun x hx=>World.putObj_heap_other hx
 have hlt:=(Array.getElem?_eq_some_iff.1 hb).1
 constructor
 ·rw [hw0]; exact k.os
 ·rw [hw0]; exact k.tape
 ·rw [hw0]; exact k.output
 ·rw [hw0,World.putObj_size]; exact k.size
 ·intro x y hx
  obtain ⟨h1,h2⟩:=hf x y hx
  rw [old x h1]; exact k.fz x y h2
 ·intro x y hx
  rw [hs] at hx
  have h1:=k.shp x y hx
  by_cases e:x = b
  ·subst e
   simp only [World.shape?,hb] at h1
   cases o <;> simp [Kf] at hn h1
  ·simpa only [World.shape?,old x e] using h1
 ·intro x y hx
  obtain ⟨h1,h2⟩:=hc x y hx
  obtain ⟨a1,c,e,⟨fr,a2,at_⟩,a3,a4⟩:=k.ob x y h1
  have hne:x≠b:=by
   rintro rfl
   rw [hb] at a2; cases a2; simp [Kf] at hn
  refine ⟨⟨?_,by rw [hs]; exact a1.2⟩,c,e,⟨fr,by rw [old x hne]; exact a2,at_⟩,by rw [hs]; exact a3,?_⟩
  ·cases e2:g'.fz x with
   | none=>rfl
   | some z=>have:=(hf x z e2).2; rw [a1.1] at this; cases this
  ·refine Z0.of_get fun i r hr=>?_
   obtain ⟨l1,l2⟩:=a4.get hr
   refine ⟨l1,Zp.of_get fun j z hz=>?_⟩
   obtain ⟨v,v1,v2,v3⟩:=l2.get hz
   exact ⟨v,v1,v2,h2 _ _ v3⟩
 ·exact hgl
 ·intro x y hx
  rcases hr x y hx with ⟨h1,h2⟩ | ⟨rfl,rfl,h1,h2⟩
  ·obtain ⟨⟨a1,a2⟩,a3⟩:=k.raw x y h2
   refine ⟨⟨by rw [old x h1]; exact a1,a2⟩,?_⟩
   cases e2:g'.fz x with
   | none=>rfl
   | some z=>have:=(hf x z e2).2; rw [a3] at this; cases this
  ·exact ⟨⟨World.putObj_heap_same hlt,h1⟩,h2⟩
theorem HR.putRaw (k:HR g h w) {b:Nat} {o o':Obj} (hb:h.r b = some o) (hn:Kf o' = true):HR g (h.updR b o') (w.putObj b o'):=by
 obtain ⟨⟨h1,h2⟩,h3⟩:=k.raw b o hb
 refine k.turn h1 h2 rfl (fun x y hx=>⟨?_,hx⟩) rfl k.gl (fun x y hx=>⟨hx,fun _ _ h=>h⟩) (fun x y hx=>?_)
 ·rintro rfl; rw [h3] at hx; cases hx
 ·by_cases e:x = b
  ·subst e; rw [Hp.updR_same] at hx; cases hx
   exact .inr ⟨rfl,rfl,hn,h3⟩
  ·rw [Hp.updR_ne _ _ e] at hx; exact .inl ⟨e,hx⟩
theorem HR.delRaw (k:HR g h w) (b:Nat):HR g (h.delR b) w:=k.forget ⟨fun _ _ h=>h,fun x o hx=>by
 simp only [Hp.delR] at hx
 split at hx
 ·cases hx
 ·exact hx⟩
def Gh.frz (g:Gh) (b:Nat) (o:Obj):Gh:={ g with fz:=fun k=>if k = b then some o else g.fz k }
theorem HR.allocFz (k:HR g h w) {o:Obj} (hn:Kf o = true):g.le (g.frz w.heap.size o)∧HR (g.frz w.heap.size o) h (w.alloc o):=by
 obtain ⟨f1,f2,f3⟩:=k.fresh
 have hle:g.le (g.frz w.heap.size o):=by
  refine ⟨rfl,fun x y hx=>?_,fun _ _ h=>h⟩
  simp only [Gh.frz]; rw [if_neg]
  ·exact hx
  ·rintro rfl; rw [f2] at hx; cases hx
 have hA:=k.allocRaw hn
 refine ⟨hle,hA.os,hA.tape,hA.output,hA.size,fun x y hx=>?_,hA.shp,fun x y hx=>?_,Z9a hle.fz k.gl,fun x y hx=>?_⟩
 ·simp only [Gh.frz] at hx
  split at hx
  ·rename_i e; subst e; cases hx
   exact (hA.raw _ o (Hp.updR_same _ _ _)).1.1
  ·exact hA.fz x y hx
 ·obtain ⟨a1,c,e,a2,a3,a4⟩:=hA.ob x y hx
  refine ⟨⟨?_,a1.2⟩,c,e,a2,a3,a4.mono hle _ _ _ _⟩
  simp only [Gh.frz]; rw [if_neg]
  ·exact a1.1
  ·rintro rfl; have:h w.heap.size = some y:=hx; rw [f1] at this; cases this
 ·have hne:x≠w.heap.size:=by
   rintro rfl; rw [k.freshR] at hx; cases hx
  have:=hA.raw x y (by rw [Hp.updR_ne _ _ hne]; exact hx)
  refine ⟨this.1,?_⟩
  simp only [Gh.frz]; rw [if_neg hne]; exact this.2
theorem Kd (P:Program) (g o:Nat) (t:TypeId) (fr:Nat×Nat):∀ (vs:List Value) (i:Nat) (cur:Array Value) (w:World),w.heap[g]? = some (.cells cur t fr)→Thawed fr cur.size→o+i+vs.length≤cur.size→(∀ v∈vs,v.oneCell' = true) →
  (storeCells ⟨g,o,none⟩ vs i).run P w = .ok () (w.setRow g (cur.toList.take (o+i)++vs++cur.toList.drop (o+i+vs.length)).toArray)
 | [],i,cur,w,hg,_,_,_=>by
  simp only [storeCells,List.append_nil,List.length_nil,Nat.add_zero,List.take_append_drop,Array.toArray_toList]
  rw [setRow_self w g cur t fr hg]
  rfl
 | v :: rest,i,cur,w,hg,ht,hl,h1=>by
  have hi:o+i < cur.size:=by simp at hl; omega
  have hadd:(⟨g,o,none⟩:Addr).add i = ⟨g,o+i,none⟩:=by unfold Addr.add; split <;> simp_all
  have hcell:w.cell? ⟨g,o+i,none⟩ = some cur[o+i]:=by simp [World.cell?,hg,hi]
  have hfro:w.frozen? ⟨g,o+i,none⟩ = false:=by
   obtain ⟨lo,hi'⟩:=fr
   simp only [World.frozen?,hg,Bool.and_eq_false_imp,decide_eq_true_eq,decide_eq_false_iff_not]
   intro h2
   rcases ht with ht | ht <;> simp only at ht <;> omega
  have hst:(store ((⟨g,o,none⟩:Addr).add i) v).run P w = .ok () (w.setRow g (cur.setIfInBounds (o+i) v)):=by
   rw [hadd,run_store P w _ v _ (h1 v (by simp)),hcell]
   simp [hfro,setCell_eq_setRow w g (o+i) cur t fr v hg]
  have ih:=Kd P g o t fr rest (i+1) (cur.setIfInBounds (o+i) v) (w.setRow g (cur.setIfInBounds (o+i) v)) (setRow_heap w g cur _ t _ hg) (by simpa using ht) (by simp at hl ⊢; omega) (fun x hx=>h1 x (by simp [hx]))
  simp only [storeCells,Sem.run_bind,hst,Result.andThen_ok,ih,setRow_setRow]
  congr 3
  have e:=list_seg_step cur.toList (o+i) v rest (by simp at hl ⊢; omega)
  simpa [Array.toList_setIfInBounds,Nat.add_assoc] using e
theorem HR.del (k:HR g h w) (b:Nat):HR g (h.del b) w:=k.forget ⟨fun x o hx=>by
 simp only [Hp.del] at hx
 split at hx
 ·cases hx
 ·exact hx,fun _ _ hx=>hx⟩
theorem one_row {c:Array Value} {xs:List AV} (h1:Zp g c 0 xs):Z0 g c xs.length 0 [xs]:=by
 simp only [Z0]; exact ⟨trivial,h1,trivial⟩
theorem Z0.splice {c c':Array Value} {sz:Nat} {rows:List (List AV)} {i co:Nat} {r xs:List AV} (hr:Z0 g c sz 0 rows) (hi:rows[i]? = some r) (hco:co+xs.length≤sz)
  (hout:∀ k,(k < i * sz+co∨i * sz+co+xs.length≤k)→c'[k]? = c[k]?) (hx:Zp g c' (i * sz+co) xs) :
  Z0 g c' sz 0 (rows.set i (r.take co++xs++r.drop (co+xs.length))):=
 Z0.of_get fun j q hq=>by
  rw [List.getElem?_set] at hq
  split at hq
  ·rename_i e1; subst e1
   split at hq <;> cases hq
   obtain ⟨l1,l2⟩:=hr.get hi
   refine ⟨by simp [l1]; omega,?_⟩
   rw [Nat.zero_add] at l2 ⊢
   have e1:(r.take co).length = co:=by simp; omega
   refine ((l2.take co).congr fun k hk=>hout _ ?_).append ?_ |>.append ?_
   ·rw [e1] at hk; left; omega
   ·rw [e1]; exact hx
   ·have e2:(r.take co++xs).length = co+xs.length:=by simp; omega
    rw [e2]
    have l3:=l2.drop (co+xs.length)
    refine l3.congr fun k hk=>?_
    rw [hout]
    right; omega
  ·rename_i hne
   obtain ⟨l1,l2⟩:=hr.get hq
   refine ⟨l1,l2.congr fun k hk=>hout _ ?_⟩
   rw [l1] at hk
   rw [Nat.zero_add]
   rcases Nat.lt_or_gt_of_ne hne with hlt | hlt
   ·right
    have:(i+1) * sz≤j * sz:=Nat.mul_le_mul_right _ hlt
    rw [Nat.add_mul] at this; omega
   ·left
    have:(j+1) * sz≤i * sz:=Nat.mul_le_mul_right _ hlt
    rw [Nat.add_mul] at this; omega
theorem J3 (cur:Array Value) (vs:List Value) (o:Nat) (h:o+vs.length≤cur.size) (k:Nat) :
  ((cur.toList.take o++vs++cur.toList.drop (o+vs.length)).toArray)[k]? = if o≤k∧k < o+vs.length then vs[k - o]? else cur[k]?:=by
 rw [List.getElem?_toArray,List.append_assoc,List.getElem?_append,List.length_take,Array.length_toList]
 split
 ·rw [if_neg (by omega),List.getElem?_take,if_pos (by omega)]; simp
 ·rw [List.getElem?_append]
  split
  ·rw [if_pos (by omega)]; congr 1; omega
  ·rw [if_neg (by omega),List.getElem?_drop]; simp; congr 1; omega
theorem Zqb (cur:Array Value) (vs:List Value) (o:Nat) (h:o+vs.length≤cur.size):((cur.toList.take o++vs++cur.toList.drop (o+vs.length)).toArray).size = cur.size:=by
 simp; omega
theorem Zp.list {c:Array Value}:∀ {o:Nat} {xs:List AV},Zp g c o xs→∃ vs:List Value,vs.length = xs.length∧(∀ v∈vs,v.oneCell' = true)∧(∀ (j:Nat) v,vs[j]? = some v→c[o+j]? = some v) ∧
  ∀ (c':Array Value) (o':Nat),(∀ (j:Nat) v,vs[j]? = some v→c'[o'+j]? = some v)→Zp g c' o' xs
 | o,[],_=>⟨[],rfl,by simp,by simp,fun _ _ _=>by simp [Zp]⟩
 | o,x :: xs,h=>by
  simp only [Zp] at h
  obtain ⟨⟨v,h1,h2,h3⟩,h4⟩:=h
  obtain ⟨vs,a1,a2,a3,a4⟩:=h4.list
  refine ⟨v :: vs,by simp [a1],?_,?_,?_⟩
  ·intro u hu
   cases hu with
   | head=>exact h2
   | tail _ hu=>exact a2 u hu
  ·intro j u hu
   cases j with
   | zero=>simp at hu; subst hu; simpa using h1
   | succ j=>have:=a3 j u (by simpa using hu); rwa [Nat.add_assoc,Nat.add_comm 1 j] at this
  ·intro c' o' hc
   simp only [Zp]
   refine ⟨⟨v,by simpa using hc 0 v (by simp),h2,h3⟩,a4 c' (o'+1) fun j u hu=>?_⟩
   have:=hc (j+1) u (by simpa using hu)
   rwa [Nat.add_assoc,Nat.add_comm 1 j]
theorem Z0.list {c:Array Value} {sz:Nat}:∀ {o:Nat} {rs:List (List AV)},Z0 g c sz o rs→∃ vs:List Value,vs.length = rs.length * sz∧(∀ v∈vs,v.oneCell' = true)∧(∀ (j:Nat) v,vs[j]? = some v→c[o+j]? = some v) ∧
  ∀ (c':Array Value) (o':Nat),(∀ (j:Nat) v,vs[j]? = some v→c'[o'+j]? = some v)→Z0 g c' sz o' rs
 | o,[],_=>⟨[],by simp,by simp,by simp,fun _ _ _=>by simp [Z0]⟩
 | o,r :: rs,h=>by
  simp only [Z0] at h
  obtain ⟨h1,h2,h3⟩:=h
  obtain ⟨us,b1,b2,b3,b4⟩:=h2.list
  obtain ⟨vs,a1,a2,a3,a4⟩:=h3.list
  have hul:us.length = sz:=by omega
  refine ⟨us++vs,by simp [a1,hul,Nat.add_mul]; omega,?_,?_,?_⟩
  ·intro u hu
   rcases List.mem_append.1 hu with hu | hu
   ·exact b2 u hu
   ·exact a2 u hu
  ·intro j u hu
   rw [List.getElem?_append] at hu
   split at hu
   ·exact b3 j u hu
   ·have:=a3 _ u hu
    rwa [hul,show o+sz+(j - sz) = o+j from by omega] at this
  ·intro c' o' hc
   simp only [Z0]
   refine ⟨h1,b4 c' o' fun j u hu=>hc j u ?_,a4 c' (o'+sz) fun j u hu=>?_⟩
   ·rw [List.getElem?_append,if_pos (List.getElem?_eq_some_iff.1 hu).1]; exact hu
   ·have:=hc (sz+j) u (by rw [List.getElem?_append,if_neg (by omega),hul,Nat.add_sub_cancel_left]; exact hu)
    rwa [← Nat.add_assoc] at this
end
end Go.Proofs.YtpkhmfedaaoalaaGreatDoor.AM
namespace Go.Proofs.YtpkhmfedaaoalaaGreatDoor.AM
open Go
section
variable {P:Program} {T:Tab} {g:Gh} {h:Hp} {w:World}
theorem alloc_run {t:Nat} {ti:TI} {i:TypeInfo} {d:TypeDesc} {z:Value} (ht:TIs P t ti i d z) (old:Value) :
  (Instr.alloc t true old).run P w = .ok (.pointer (some ⟨w.heap.size,0,none⟩)) (w.alloc (.cells z.cells t)):=by
 simp [Instr.alloc,ht.run_zero,newVar,newRow]
theorem store_run (hh:HR g h w) {t:Nat} {ti:TI} {i:TypeInfo} {d:TypeDesc} {z:Value} (ht:TIs P t ti i d z) {b sz r0 c:Nat} {o:Ob} (hb:h b = some o) {r:List AV} (hr:o.rows[r0]? = some r)
  (hsz:o.sz = sz) {x:AV} {v:Value} (hx:VR g x v) (hok:x.okCells = true) (hlen:x.cells.length = ti.size) (hc:c+ti.size≤r.length) :
  ∃ w',(storeVar t ⟨b,r0 * sz+c,none⟩ v).run P w = .ok () w'∧HR g (h.upd b ⟨sz,o.rows.set r0 (r.take c++x.cells++r.drop (c+ti.size)),o.ty⟩) w':=by
 obtain ⟨q1,cur,e,⟨fr,q2,qt⟩,q3,q4⟩:=hh.ob b o hb
 subst hsz
 obtain ⟨l1,l2⟩:=q4.get hr
 rw [Nat.zero_add] at l2
 obtain ⟨x1,x2⟩:=hx.okCells hok
 have hvl:v.cells.toList.length = ti.size:=by rw [Array.length_toList]; omega
 have hone:∀ u∈v.cells.toList,u.oneCell' = true:=by
  intro u hu
  obtain ⟨j,hj⟩:=List.mem_iff_getElem?.1 hu
  have hj':j < x.cells.length:=by have:=(List.getElem?_eq_some_iff.1 hj).1; omega
  obtain ⟨u',e1,e2,_⟩:=x1.get (List.getElem?_eq_getElem hj')
  rw [Nat.zero_add,← Array.getElem?_toList,hj] at e1
  cases e1; exact e2
 by_cases h0:ti.size = 0
 ·have hv0:v.cells.toList = []:=List.eq_nil_of_length_eq_zero (by omega)
  have hx0:x.cells = []:=List.eq_nil_of_length_eq_zero (by omega)
  refine ⟨w,?_,?_⟩
  ·have hs0:v.cells.size = 0:=by rw [← Array.length_toList,hv0]; rfl
   simp [storeVar,ht.run_size,h0,hs0,hv0,storeCells]
  ·have:o.rows.set r0 (r.take c++x.cells++r.drop (c+ti.size)) = o.rows:=by
    rw [hx0,h0]; simp
    apply List.ext_getElem?
    intro j
    rw [List.getElem?_set]
    split
    ·rename_i e1; subst e1; rw [hr]; simp [(List.getElem?_eq_some_iff.1 hr).1]
    ·rfl
   rw [this]
   have e2:h.upd b ⟨o.sz,o.rows,o.ty⟩ = h:=by
    refine Hp.ext (fun j=>?_) (fun _=>rfl)
    simp only [Hp.upd]; split
    ·rename_i e1; subst e1; exact hb.symm
    ·rfl
   rw [e2]; exact hh
 ·have hbound:r0 * o.sz+r.length≤cur.size:=by
   rcases l2.bound with e1 | e1
   ·rw [e1] at hc; simp at hc; omega
   ·exact e1
  have hrun:=Kd P b (r0 * o.sz+c) e fr v.cells.toList 0 cur w q2 qt (by omega) hone
  simp only [Nat.add_zero] at hrun
  have hsp:r0 * o.sz+c+v.cells.toList.length≤cur.size:=by omega
  refine ⟨_,?_,HR.set hh hb q2 (Zqb cur _ _ hsp) ?_ o.ty id⟩
  ·have hs1:v.cells.size = ti.size:=by omega
   have hsz1:(sizeOf t).run P w = .ok ti.size w:=ht.run_size w
   unfold storeVar
   simp only [Sem.run_bind,hsz1,Result.andThen_ok,hs1,ne_eq,not_true_eq_false,if_false]
   simpa using hrun
  ·rw [← hlen]
   refine Z0.splice q4 hr (by omega) ?_ ?_
   ·intro k hk
    rw [J3 cur _ _ hsp,if_neg (by omega)]
   ·refine Zp.of_get fun k y hy=>?_
    obtain ⟨u,e1,e2,e3⟩:=x1.get hy
    have hk:=(List.getElem?_eq_some_iff.1 hy).1
    refine ⟨u,?_,e2,e3⟩
    rw [J3 cur _ _ hsp,if_pos (by omega),Nat.add_sub_cancel_left]
    rw [Nat.zero_add] at e1
    simpa using e1
theorem repl_get (zc:Array Value) (sz n k:Nat) (hz:zc.size = sz) (hk:k < n * sz):((Array.range (n * sz)).map (zc[· % zc.size]!))[k]? = zc[k % sz]?:=by
 have h0:0 < sz:=by rcases Nat.eq_zero_or_pos sz with e | e; subst e; omega; exact e
 have hm:k % sz < zc.size:=by rw [hz]; exact Nat.mod_lt _ h0
 simp [hk,hz]
 rw [getElem!_pos zc (k % sz) hm]
 exact (Array.getElem?_eq_getElem hm).symm
theorem repl_rows {ti:TI} {t:Nat} {i:TypeInfo} {d:TypeDesc} {z:Value} (ht:TIs P t ti i d z) (n m:Nat) (hm:m≤n) :
  Z0 g ((Array.range (n * ti.size)).map (z.cells[· % z.cells.size]!)) ti.size 0 (List.replicate m (ti.zero.map .val)):=by
 obtain ⟨z1,z2⟩:=zero_cells (g:=g) ht
 refine Z0.of_get fun j r hr=>?_
 rw [List.getElem?_replicate] at hr
 split at hr <;> cases hr
 rename_i hj
 have hl:(ti.zero.map AV.val).length = ti.size:=by rw [← z2,ht.zsize]
 refine ⟨hl,z1.congr fun k hk=>?_⟩
 rw [hl] at hk
 have hlt:j * ti.size+k < n * ti.size:=by
  have:(j+1) * ti.size≤n * ti.size:=Nat.mul_le_mul_right _ (by omega)
  rw [Nat.add_mul] at this; omega
 rw [Nat.zero_add,repl_get _ _ _ _ ht.zsize hlt,Nat.zero_add,Nat.mul_comm j,Nat.mul_add_mod,Nat.mod_eq_of_lt hk]
theorem fill_rows {sz:Nat} (hsz:0 < sz):∀ {parts:List (Nat×AV)} {vs:List (Nat×Value)} {c:Array Value} {rows rows':List (List AV)},Z0 g c sz 0 rows→c.size = rows.length * sz→PRs g parts vs→Jqa sz rows parts = some rows' →
  ∃ c',Instr.fill (fun i=>some (i * sz,sz)) c vs = some c'∧Z0 g c' sz 0 rows'∧c'.size = c.size
 | [],[],c,rows,rows',hr,hc,_,h=>by simp only [Jqa] at h; cases h; exact ⟨c,rfl,hr,rfl⟩
 | (i,x) :: parts,(i',v) :: vs,c,rows,rows',hr,hc,hp,h=>by
  simp only [PRs] at hp
  obtain ⟨rfl,hx,hp⟩:=hp
  simp only [Jqa] at h
  split at h <;> try cases h
  rename_i hcond
  obtain ⟨h1,h2,h3⟩:=hcond
  obtain ⟨x1,x2⟩:=hx.okCells h1
  have hvs:v.cells.size = sz:=by omega
  have hle:i * sz+sz≤c.size:=by
   have:(i+1) * sz≤rows.length * sz:=Nat.mul_le_mul_right _ h3
   rw [Nat.add_mul] at this; omega
  have hget:=laid_get c (i * sz) v.cells (by omega)
  have hrow:rows[i]? = some rows[i]:=List.getElem?_eq_getElem h3
  have hrl:=(hr.get hrow).1
  have hsp:=Z0.splice (c':=laid c (i * sz) v.cells) (co:=0) (xs:=x.cells) hr hrow (by omega) (fun k hk=>by rw [hget,if_neg (by omega)])
   (Zp.of_get fun k y hy=>by
    obtain ⟨u,e1,e2,e3⟩:=x1.get hy
    have hk:=(List.getElem?_eq_some_iff.1 hy).1
    refine ⟨u,?_,e2,e3⟩
    rw [hget,if_pos (by omega),show i * sz+0+k - i * sz = k from by omega]
    rwa [Nat.zero_add] at e1)
  have e1:rows[i].take 0++x.cells++rows[i].drop (0+x.cells.length) = x.cells:=by simp; omega
  rw [e1] at hsp
  obtain ⟨c',f1,f2,f3⟩:=fill_rows hsz hsp (by rw [laid_size,hc,List.length_set]) hp h
  refine ⟨c',?_,f2,by rw [f3,laid_size]⟩
  simp only [Instr.fill]
  have n1:(v.cells.size≠sz) = False:=by simp [hvs]
  have n2:(i * sz+v.cells.size > c.size) = False:=by simp; omega
  simp only [n1,n2,decide_false,Bool.or_self,Bool.false_eq_true,if_false]
  exact f1
 | [],_ :: _,_,_,_,_,_,h,_=>by simp [PRs] at h
 | _ :: _,[],_,_,_,_,_,h,_=>by simp [PRs] at h
theorem aSrc_run (hT:Kb P T) (hh:HR g h w) {tx:Nat} {tix:TI} {i:TypeInfo} {d:TypeDesc} {z:Value} (ht:TIs P tx tix i d z) {sz:Nat} {x:AV} {v:Value} (hx:VR g x v) {xs:List (List AV)} (hs:aSrc sz tix.kind x h = some xs) :
  ∃ news,Src P sz tx v xs.length news w∧∀ (c':Array Value) (o':Nat),(∀ (j:Nat) u,news[j]? = some u→c'[o'+j]? = some u)→Z0 g c' sz o' xs:=by
 unfold aSrc at hs
 split at hs <;> try cases hs
 ·rename_i e sz' rows hk
  split at hs <;> cases hs
  rename_i hsz; subst hsz
  have hu:=ht.und; rw [ht.sl hk] at hu
  simp only [VR] at hx
  obtain ⟨A,cap,rfl,hcap,hx⟩:=hx
  rcases hx with rfl | ⟨a,c,e',fr,rfl,hsp,hfz,hrows⟩
  ·cases A with
   | none=>exact ⟨[],Src.ofNil w hu cap,fun _ _ _=>by simp [Z0]⟩
   | some a=>exact ⟨[],Src.ofSlice w hu a 0 cap [] (by simp) (by simp) (by simp),fun _ _ _=>by simp [Z0]⟩
  ·obtain ⟨news,n1,n2,n3,n4⟩:=hrows.list
   refine ⟨news,Src.ofSlice w hu a _ cap news n1 (fun j u hu=>?_) n2,n4⟩
   rw [K1 a hsp,cell_of (hh.fz _ _ hfz)]
   exact n3 j u hu
 ·rename_i e b sz' off len hk
  split at hs <;> try cases hs
  rename_i o ho
  split at hs <;> cases hs
  rename_i hc
  obtain ⟨rfl,hosz,hle⟩:=hc
  have hu:=ht.und; rw [ht.sl hk] at hu
  simp only [VR] at hx
  obtain ⟨a,cap,rfl,hcap,hsp,hx⟩:=hx
  have hlen:((o.rows.drop off).take len).length = len:=by simp; omega
  rw [hlen]
  by_cases h0:len = 0
  ·subst h0
   refine ⟨[],Src.ofSlice w hu a 0 cap [] (by simp) (by simp) (by simp),fun _ _ _=>by simp [Z0]⟩
  ·rcases hx with hx | ⟨rfl,e',n,hn,hle'⟩
   ·omega
   ·obtain ⟨q1,cur,e2,⟨fr,q2,qt⟩,q3,q4⟩:=hh.ob b o ho
    rw [hosz] at q4
    have q5:=(q4.drop off).take len
    obtain ⟨news,n1,n2,n3,n4⟩:=q5.list
    rw [hlen] at n1
    refine ⟨news,Src.ofSlice w hu _ _ cap news n1 (fun j u hu=>?_) n2,n4⟩
    rw [K1 _ rfl,cell_of q2]
    have:=n3 j u hu
    rwa [Nat.zero_add] at this
 ·rename_i e hk
  have hu:=ht.und; rw [ht.sl hk] at hu
  simp only [VR] at hx
  subst hx
  exact ⟨[],Src.ofNil w hu 0,fun _ _ _=>by simp [Z0]⟩
 ·rename_i s hk
  split at hs <;> cases hs
  rename_i hsz; subst hsz
  have hu:=ht.und; rw [ht.str hk] at hu
  simp only [VR] at hx
  subst hx
  have hl:(s.data.toList.map fun b=>[Yab b.toNat]).length = s.size:=by simp
  rw [hl]
  refine ⟨byteCells s,Src.ofString w hu s,fun c' o' hc=>Z0.of_get fun j r hr=>?_⟩
  rw [List.getElem?_map] at hr
  cases hb:s.data.toList[j]? with
  | none=>rw [hb] at hr; cases hr
  | some b=>
   rw [hb] at hr; cases hr
   refine ⟨rfl,?_⟩
   simp only [Zp]
   refine ⟨⟨.int .u8 b.toNat,?_,rfl,by simp [VR,Yab]⟩,trivial⟩
   have:=hc j (.int .u8 b.toNat) (by rw [byteCells,List.getElem?_map,hb]; rfl)
   simpa using this
theorem append_room {t tx ty e e2:TypeId} {i:TypeInfo} (ht:P.underlying t = some (.slice e)) (hi:P.info? e = some i) {b sLen sCap:Nat} {x:Value} {n:Nat} {news:List Value} (hs:Src P i.size tx x n news w)
  {cur:Array Value} {fr:Nat×Nat} (hb:w.heap[b]? = some (.cells cur e2 fr)) (hth:Thawed fr cur.size) (hroom:sLen+n≤sCap) (hfit:sLen * i.size+news.length≤cur.size) :
  (Builtin.append_ #[t,tx] ty #[.slice (some ⟨b,0,none⟩) sLen sCap,x]).run P w = .ok (.slice (some ⟨b,0,none⟩) (sLen+n) sCap)
   (w.setRow b (cur.toList.take (sLen * i.size)++news++cur.toList.drop (sLen * i.size+news.length)).toArray):=by
 have hst:=Kd P b (sLen * i.size) e2 fr news 0 cur w hb hth (by omega) hs.one
 simp only [Nat.add_zero] at hst
 rcases hs.kind with ⟨e',hk⟩ | hk <;> simp [Builtin.append_,run_underlying ht,run_underlying hk,sizeOf,typeInfo,hi,hs.len,hroom,hs.cells,Addr.add_lit,hst]
theorem grown_hr (hh:HR g h w) {e:TypeId} {ei:TI} {i:TypeInfo} {d:TypeDesc} {z:Value} (ht:TIs P e ei i d z) {olds news:List Value} {rs xs:List (List AV)} (need old:Nat) (ty:Option (Nat×Nat)) (hty:∀ n,TyOK (some (e,n)) ty) (hl:(olds++news).length = need * i.size)
  (hneed:need = rs.length+xs.length) (hs0:0 < ei.size)
  (ho:∀ (c':Array Value) (o':Nat),(∀ (j:Nat) u,olds[j]? = some u→c'[o'+j]? = some u)→Z0 g c' ei.size o' rs) (hol:olds.length = rs.length * ei.size)
  (hn:∀ (c':Array Value) (o':Nat),(∀ (j:Nat) u,news[j]? = some u→c'[o'+j]? = some u)→Z0 g c' ei.size o' xs) :
  ∃ g',g.le g'∧VR g' (.osl w.heap.size ei.size 0 need) (.slice (some ⟨w.heap.size,0,none⟩) need (grownCap w need old e)) ∧
   HR g' (h.upd w.heap.size ⟨ei.size,rs++xs,ty⟩) (w.drew.alloc (.cells ((olds++news).toArray++Builtin.zeroCells z.cells (grownCap w need old e - need)) e)):=by
 have hge:=grownCap_ge w need old e
 generalize hc:(olds++news).toArray++Builtin.zeroCells z.cells (grownCap w need old e - need) = c
 have hsz:c.size = grownCap w need old e * ei.size:=by
  rw [← hc,Array.size_append,size_zeroCells,List.size_toArray,hl,ht.size,ht.zsize,← Nat.add_mul]
  congr 1; omega
 have hget:∀ (j:Nat) u,(olds++news)[j]? = some u→c[j]? = some u:=by
  intro j u hu
  have hj:=(List.getElem?_eq_some_iff.1 hu).1
  rw [← hc,Array.getElem?_append,if_pos (by simpa using hj)]
  simpa using hu
 have hr:Z0 g c ei.size 0 (rs++xs):=by
  refine Z0.append (ho c 0 fun j u hu=>?_) (hn c _ fun j u hu=>?_)
  ·rw [Nat.zero_add]; refine hget j u ?_
   rw [List.getElem?_append,if_pos (List.getElem?_eq_some_iff.1 hu).1]; exact hu
  ·rw [Nat.zero_add]; refine hget _ u ?_
   rw [List.getElem?_append,if_neg (by omega),hol,Nat.add_sub_cancel_left]; exact hu
 have hd:HR g h w.drew:=hh.drew
 obtain ⟨a1,a2⟩:=hd.alloc (e:=e) hr ty (hty _)
 refine ⟨_,a1,?_,a2⟩
 simp only [VR]
 refine ⟨_,_,rfl,hge,rfl,.inr ⟨by simp,e,c.size,?_,?_⟩⟩
 ·show (g.new w.heap.size (e,c.size)).shp w.heap.size = _
  simp [Gh.new]
 ·rw [Nat.zero_add,hsz]; exact Nat.le_refl _
theorem aAppend_run (hT:Kb P T) (hh:HR g h w) {t tx:Nat} {s x:AV} {u v:Value} (hu:VR g s u) (hv:VR g x v) {k:AV→Hp→Prop} (hk:Kxa T t tx s x h k) {ty:TypeId} :
  ∃ r w' g' y h',(Builtin.append_ #[t,tx] ty #[u,v]).run P w = .ok r w'∧g.le g'∧VR g' y r∧HR g' h' w'∧k y h':=by
 unfold Kxa at hk
 split at hk <;> try exact hk.elim
 rename_i ti tix hti htix
 split at hk <;> try exact hk.elim
 rename_i e hke
 split at hk <;> try exact hk.elim
 rename_i ei hei
 split at hk <;> try exact hk.elim
 rename_i rs ob xs hdst hsrc
 obtain ⟨hbytes,hs0,hb0,hk⟩:=hk
 obtain ⟨i1,d1,z1,ht1⟩:=hT.get hti
 obtain ⟨i2,d2,z2,ht2⟩:=hT.get htix
 obtain ⟨i3,d3,z3,ht3⟩:=hT.get hei
 have hund:=ht1.und; rw [ht1.sl hke] at hund
 rw [← ht3.size] at hsrc
 obtain ⟨news,src,hnews⟩:=aSrc_run hT hh ht2 hv hsrc
 have hsmall:rs.length+xs.length≤140737488355328:=by
  refine Nat.le_trans ?_ hbytes
  exact Nat.le_mul_of_pos_right _ hb0
 have hnl:news.length = xs.length * ei.size:=by rw [← ht3.size]; exact src.newsLen
 rw [ht3.size] at hnews
 unfold aDst at hdst
 split at hdst
 ·cases hdst
  simp only [VR] at hu
  subst hu
  by_cases hx0:xs = []
  ·subst hx0
   have hn0:news = []:=List.eq_nil_of_length_eq_zero (by rw [hnl]; simp)
   subst hn0
   refine ⟨.slice none 0 0,w,g,anil,h,?_,Gh.le.refl g,by simp [VR,anil],hh,hk.1 rfl⟩
   have hsr:=src
   simp only [List.length_nil] at hsr
   rcases src.kind with ⟨e',hk'⟩ | hk' <;> simp [Builtin.append_,run_underlying hund,run_underlying hk',sizeOf,typeInfo,ht3.info,hsr.len,hsr.cells]
  ·have hpos:0 < xs.length:=List.length_pos_iff.2 hx0
   have hrun:=run_append_grow_src (P:=P) w t tx ty e i3 z3 hund ht3.info ht3.zero none 0 0 [] (by simp [run_firstCells_none]) v xs.length news src (by omega) (by omega) (by
    rw [ht3.bytes]; exact growslice_fits (by omega) (by simpa using hbytes))
   simp only [Nat.zero_add] at hrun
   have hl:([]++news).length = xs.length * i3.size:=by rw [List.nil_append]; exact src.newsLen
   obtain ⟨g',a1,a2,a3⟩:=grown_hr hh ht3 (olds:=[]) (rs:=[]) xs.length 0 (some (e,0)) (fun n=>TyOK.row e n) hl (by simp) hs0 (fun _ _ _=>by simp [Z0]) (by simp) hnews
   exact ⟨_,_,g',_,_,hrun,a1,a2,a3,hk.2 hx0 _ hh.fresh.1⟩
 ·rename_i b sz' len
  split at hdst <;> try cases hdst
  rename_i o ho
  split at hdst <;> cases hdst
  rename_i hc
  obtain ⟨rfl,hosz,hle⟩:=hc
  have hrl:(o.rows.take len).length = len:=by simp; omega
  rw [hrl] at hbytes hsmall hk
  simp only [VR] at hu
  obtain ⟨a,cap,rfl,hcap,hsp,hu⟩:=hu
  obtain ⟨q1,cur,e2,⟨fr,q2,qt⟩,q3,q4⟩:=hh.ob b o ho
  rw [hosz] at q4
  have q5:=q4.take len
  obtain ⟨olds,o1,o2,o3,o4⟩:=q5.list
  rw [hrl] at o1
  by_cases hroom:len+xs.length≤cap∧cap≠0
  ·obtain ⟨hroom,hcap0⟩:=hroom
   rcases hu with hu | ⟨rfl,e',n,hn,hle'⟩
   ·exact absurd hu hcap0
   ·rw [q3] at hn; cases hn
    simp only [Nat.zero_mul,Nat.zero_add] at hle' ⊢
    have hfit:len * i3.size+news.length≤cur.size:=by
     rw [ht3.size,hnl,← Nat.add_mul]
     exact Nat.le_trans (Nat.mul_le_mul_right _ hroom) hle'
    have hrun:=append_room (ty:=ty) hund ht3.info src q2 qt hroom hfit
    refine ⟨_,_,g,_,(h.del b).upd b ⟨ei.size,o.rows.take len++xs,Kn e o.ty⟩,hrun,Gh.le.refl g,?_,?_,hk b (by simp [Hp.del])⟩
    ·simp only [VR]
     exact ⟨_,cap,rfl,hroom,rfl,.inr ⟨by simp,e2,cur.size,q3,by simpa using hle'⟩⟩
    ·have e3:(h.del b).upd b ⟨ei.size,o.rows.take len++xs,Kn e o.ty⟩ = h.upd b ⟨ei.size,o.rows.take len++xs,Kn e o.ty⟩:=by
      exact Hp.ext (fun j=>by simp only [Hp.upd,Hp.del]; split <;> rfl) (fun _=>rfl)
     rw [e3]
     refine HR.set hh ho q2 (Zqb cur news _ hfit) (Z0.append ?_ ?_) (Kn e o.ty) TyOK.keep
     ·refine q5.congr fun k hk=>?_
      rw [Nat.zero_add,J3 cur news _ hfit,if_neg]
      rw [hrl] at hk; rw [ht3.size]; omega
     ·refine hnews _ _ fun j u hu=>?_
      have hj:=(List.getElem?_eq_some_iff.1 hu).1
      rw [Nat.zero_add,hrl,J3 cur news _ hfit,ht3.size,if_pos (by omega),Nat.add_sub_cancel_left]
      exact hu
  ·by_cases hz:len+xs.length≤cap
   ·have hcap0:cap = 0:=by
     rcases Nat.eq_zero_or_pos cap with e | e
     ·exact e
     ·exact absurd ⟨hz,by omega⟩ hroom
    have hl0:len = 0:=by omega
    have hx0:xs = []:=List.eq_nil_of_length_eq_zero (by omega)
    subst hl0; subst hx0
    have hn0:news = []:=List.eq_nil_of_length_eq_zero (by rw [hnl]; simp)
    subst hn0
    have hsr:=src
    simp only [List.length_nil] at hsr
    refine ⟨.slice (some a) 0 cap,w,g,_,(h.del b).upd b ⟨ei.size,o.rows.take 0++[],Kn e o.ty⟩,?_,Gh.le.refl g,?_,?_,hk b (by simp [Hp.del])⟩
    ·rcases src.kind with ⟨e',hk'⟩ | hk' <;> simp [Builtin.append_,run_underlying hund,run_underlying hk',sizeOf,typeInfo,ht3.info,hsr.len,hsr.cells,storeCells]
    ·simp only [VR]
     exact ⟨a,cap,by simp,by simp,hsp,.inl hcap0⟩
    ·have e3:(h.del b).upd b ⟨ei.size,o.rows.take 0++[],Kn e o.ty⟩ = h.upd b ⟨ei.size,[],Kn e o.ty⟩:=by
      exact Hp.ext (fun j=>by simp only [Hp.upd,Hp.del]; split <;> rfl) (fun _=>rfl)
     rw [e3]
     refine { hh with ob:=fun x y hx=>?_ }
     simp only [Hp.upd] at hx
     split at hx
     ·rename_i e1; subst e1; cases hx
      exact ⟨⟨q1.1,q1.2.keep⟩,cur,e2,⟨fr,q2,qt⟩,q3,by simp [Z0]⟩
     ·exact hh.ob x y hx
   ·have hfirst:(Builtin.firstCells i3.size len (.slice (some a) len cap)).run P w.drew = .ok olds.toArray w.drew:=by
     rcases hu with hu | ⟨rfl,e',n,hn,hle'⟩
     ·have:len = 0:=by omega
      subst this
      have:olds = []:=List.eq_nil_of_length_eq_zero (by simpa using o1)
      subst this
      exact run_firstCells_some w.drew i3.size 0 a 0 cap [] (by simp) (by simp)
     ·refine run_firstCells_some w.drew i3.size len _ len cap olds (by rw [o1,ht3.size]) fun j u hu=>?_
      rw [K1 _ rfl]
      show w.cell? _ = _
      rw [cell_of q2]
      simpa using o3 j u hu
    have hrun:=run_append_grow_src (P:=P) w t tx ty e i3 z3 hund ht3.info ht3.zero (some a) len cap olds hfirst v xs.length news src (by omega) (by omega) (by
     rw [ht3.bytes]; exact growslice_fits (by omega) hbytes)
    obtain ⟨g',a1,a2,a3⟩:=grown_hr (hh.del b) ht3 (olds:=olds) (news:=news) (rs:=o.rows.take len) (xs:=xs) (len+xs.length) cap (Kn e o.ty) (fun n=>TyOK.keep') (by
     rw [List.length_append,o1,hnl,ht3.size,Nat.add_mul]) (by rw [hrl]) hs0 o4 (by rw [o1,hrl]) hnews
    exact ⟨_,_,g',_,_,hrun,a1,a2,a3,hk _ (hh.del b).fresh.1⟩
 ·cases hdst
end
end Go.Proofs.YtpkhmfedaaoalaaGreatDoor.AM
