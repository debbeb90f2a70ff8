/- ItemsGlues: a part of its proof (packed by a program). -/
import GoSem.Claim
import Derived.Lib.LaidTab
import Derived.Lib.ItoaNum
import Derived.Test.YtpkhmfedaaoalaaGreatDoorProg
import Derived.Orders
import Derived.KernelRfl
import Derived.Laws.AppendOwn
import Derived.Laws.OwnMore
import Derived.Laws.Slices
import Derived.WideLaws
import Derived.Deep.AppendSrc
import Derived.Laws.StructEq
set_option linter.all false
namespace Go.Proofs.YtpkhmfedaaoalaaGreatDoor.AM
open Go
def Laid (w:World):Prop:=True
def Glob (fz:Nat→Option Obj):Prop:=∀ w:World,(∀ b o,fz b = some o→w.heap[b]? = some o)→Laid w
theorem Z9a {fz fz':Nat→Option Obj} (h:∀ b o,fz b = some o→fz' b = some o) (k:Glob fz):Glob fz':=fun w hw=>k w fun b o e=>hw b o (h b o e)
end Go.Proofs.YtpkhmfedaaoalaaGreatDoor.AM
namespace Go.Proofs.YtpkhmfedaaoalaaGreatDoor.AM
open Go
structure Gh where
 w0:World
 fz:Nat→Option Obj
 shp:Nat→Option (TypeId×Nat)
 tl:List Deferred:=[]
 nm:Bool:=false
structure Gh.le (g g':Gh):Prop where
 w0:g'.w0 = g.w0
 fz:∀ b o,g.fz b = some o→g'.fz b = some o
 shp:∀ b x,g.shp b = some x→g'.shp b = some x
structure Gh.cle (g g':Gh):Prop where
 w0:g'.w0 = g.w0
 fz:∀ b c e fr,g.fz b = some (.cells c e fr)→g'.fz b = some (.cells c e fr)
 shp:∀ b x,g.shp b = some x→g'.shp b = some x
theorem Gh.cle.refl (g:Gh):g.cle g:=⟨rfl,fun _ _ _ _ h=>h,fun _ _ h=>h⟩
theorem Gh.cle.trans {a b c:Gh} (h:a.cle b) (k:b.cle c):a.cle c:=
 ⟨k.w0.trans h.w0,fun x o e f hx=>k.fz x o e f (h.fz x o e f hx),fun x o hx=>k.shp x o (h.shp x o hx)⟩
inductive AV where
 | any
 | val (v:Value)
 | isl (sz:Nat) (rows:List (List AV))
 | osl (b sz off len:Nat)
 | iptr (row:List AV) (col:Nat)
 | optr (b sz row col:Nat)
 | fn (f:Fn) (first caps:List AV)
 | agg (cells:List AV)
 | tup (vs:List AV)
 | ifc (t:TypeId) (v:AV)
 | yld (l:Nat) (g:Gh)
 | nsl (sz:Nat) (rows:List (List AV))
instance : Inhabited AV:=⟨.any⟩
def aint (n:Int):AV:=.val (.int .i64 n)
def Yab (n:Int):AV:=.val (.int .u8 n)
def Zk (b:Bool):AV:=.val (.bool b)
def astr (s:ByteArray):AV:=.val (.string s)
def anil:AV:=.val (.slice none 0 0)
theorem Gh.le.refl (g:Gh):g.le g:=⟨rfl,fun _ _ h=>h,fun _ _ h=>h⟩
theorem Gh.le.trans {a b c:Gh} (h:a.le b) (k:b.le c):a.le c:=
 ⟨k.w0.trans h.w0,fun x o hx=>k.fz x o (h.fz x o hx),fun x o hx=>k.shp x o (h.shp x o hx)⟩
mutual
def VR (g:Gh):AV→Value→Prop
 | .any,_=>True
 | .val u,v=>v = u
 | .isl sz rows,v=>∃ A cap,v = .slice A rows.length cap∧rows.length≤cap ∧
   (rows = []∨∃ a c e fr,A = some a∧a.spot = none∧g.fz a.block = some (.cells c e fr)∧Z0 g c sz a.off rows)
 | .osl b sz off len,v=>∃ a cap,v = .slice (some a) len cap∧len≤cap∧a.spot = none ∧
   (cap = 0∨(a = ⟨b,off * sz,none⟩∧∃ e n,g.shp b = some (e,n)∧(off+cap) * sz≤n))
 | .iptr row col,v=>∃ a c e fr,v = .pointer (some a)∧a.spot = none∧col≤a.off∧g.fz a.block = some (.cells c e fr)∧Zp g c (a.off - col) row
 | .optr b sz row col,v=>v = .pointer (some ⟨b,row * sz+col,none⟩)
 | .fn f first caps,v=>∃ fs cs,v = .func f fs cs∧VRs g first fs.toList∧VRs g caps cs.toList
 | .agg cells,v=>∃ vs,v = .agg vs∧Zp g vs 0 cells∧vs.size = cells.length
 | .tup xs,v=>∃ vs,v = .tuple vs∧VRs g xs vs.toList
 | .ifc t x,v=>∃ u,v = .iface t u∧VR g x u
 | .yld l gb,v=>v = .func (.yield l) #[] #[]∧gb.cle g
 | .nsl sz rows,v=>∃ A cap,v = .slice A rows.length cap∧rows.length≤cap ∧
   (rows = []∨∃ b c e,A = some ⟨b,0,none⟩∧g.w0.heap.size≤b∧cap * sz≤c.size∧g.fz b = some (.cells c e (0,0))∧Z0 g c sz 0 rows)
def Zp (g:Gh) (c:Array Value):Nat→List AV→Prop
 | _,[]=>True
 | o,x :: xs=>(∃ v,c[o]? = some v∧v.oneCell' = true∧VR g x v)∧Zp g c (o+1) xs
def Z0 (g:Gh) (c:Array Value) (sz:Nat):Nat→List (List AV)→Prop
 | _,[]=>True
 | o,r :: rs=>r.length = sz∧Zp g c o r∧Z0 g c sz (o+sz) rs
def VRs (g:Gh):List AV→List Value→Prop
 | [],[]=>True
 | x :: xs,v :: vs=>VR g x v∧VRs g xs vs
 | _,_=>False
end
theorem Gh.le.cle {g g':Gh} (h:g.le g'):g.cle g':=⟨h.w0,fun b _ _ _=>h.fz b _,h.shp⟩
mutual
theorem VR.cmono {g g':Gh} (h:g.cle g'):∀ (x:AV) (v:Value),VR g x v→VR g' x v
 | .any,_,_=>by simp [VR]
 | .val u,v,k=>by simpa [VR] using k
 | .isl sz rows,v,k=>by
  simp only [VR] at k ⊢
  obtain ⟨A,cap,rfl,hc,k⟩:=k
  refine ⟨A,cap,rfl,hc,k.imp id ?_⟩
  rintro ⟨a,c,e,fr,rfl,hs,hf,hr⟩
  exact ⟨a,c,e,fr,rfl,hs,h.fz _ _ _ _ hf,Z0.cmono h c sz _ rows hr⟩
 | .osl b sz off len,v,k=>by
  simp only [VR] at k ⊢
  obtain ⟨a,cap,rfl,hc,hs,k⟩:=k
  refine ⟨a,cap,rfl,hc,hs,k.imp id ?_⟩
  rintro ⟨rfl,e,n,hn,hle⟩
  exact ⟨rfl,e,n,h.shp _ _ hn,hle⟩
 | .iptr row col,v,k=>by
  simp only [VR] at k ⊢
  obtain ⟨a,c,e,fr,rfl,hs,hc,hf,hr⟩:=k
  exact ⟨a,c,e,fr,rfl,hs,hc,h.fz _ _ _ _ hf,Zp.cmono h c _ row hr⟩
 | .optr ..,v,k=>by simpa [VR] using k
 | .fn f first caps,v,k=>by
  simp only [VR] at k ⊢
  obtain ⟨fs,cs,rfl,h1,h2⟩:=k
  exact ⟨fs,cs,rfl,VRs.cmono h first _ h1,VRs.cmono h caps _ h2⟩
 | .agg cells,v,k=>by
  simp only [VR] at k ⊢
  obtain ⟨vs,rfl,h1,h2⟩:=k
  exact ⟨vs,rfl,Zp.cmono h vs _ cells h1,h2⟩
 | .tup xs,v,k=>by
  simp only [VR] at k ⊢
  obtain ⟨vs,rfl,h1⟩:=k
  exact ⟨vs,rfl,VRs.cmono h xs _ h1⟩
 | .ifc t x,v,k=>by
  simp only [VR] at k ⊢
  obtain ⟨u,rfl,h1⟩:=k
  exact ⟨u,rfl,VR.cmono h x u h1⟩
 | .yld l gb,v,k=>by
  simp only [VR] at k ⊢
  exact ⟨k.1,k.2.trans h⟩
 | .nsl sz rows,v,k=>by
  simp only [VR] at k ⊢
  obtain ⟨A,cap,rfl,hc,k⟩:=k
  refine ⟨A,cap,rfl,hc,k.imp id ?_⟩
  rintro ⟨b,c,e,rfl,hs,hk,hf,hr⟩
  exact ⟨b,c,e,rfl,by rw [h.w0]; exact hs,hk,h.fz _ _ _ _ hf,Z0.cmono h c sz _ rows hr⟩
theorem Zp.cmono {g g':Gh} (h:g.cle g') (c:Array Value):∀ (o:Nat) (xs:List AV),Zp g c o xs→Zp g' c o xs
 | _,[],_=>by simp [Zp]
 | o,x :: xs,k=>by
  simp only [Zp] at k ⊢
  obtain ⟨⟨v,h1,h2,h3⟩,k2⟩:=k
  exact ⟨⟨v,h1,h2,VR.cmono h x v h3⟩,Zp.cmono h c (o+1) xs k2⟩
theorem Z0.cmono {g g':Gh} (h:g.cle g') (c:Array Value) (sz:Nat):∀ (o:Nat) (xs:List (List AV)),Z0 g c sz o xs→Z0 g' c sz o xs
 | _,[],_=>by simp [Z0]
 | o,r :: rs,k=>by
  simp only [Z0] at k ⊢
  exact ⟨k.1,Zp.cmono h c o r k.2.1,Z0.cmono h c sz (o+sz) rs k.2.2⟩
theorem VRs.cmono {g g':Gh} (h:g.cle g'):∀ (xs:List AV) (vs:List Value),VRs g xs vs→VRs g' xs vs
 | [],[],_=>by simp [VRs]
 | x :: xs,v :: vs,k=>by
  simp only [VRs] at k ⊢
  exact ⟨VR.cmono h x v k.1,VRs.cmono h xs vs k.2⟩
 | [],_ :: _,k=>by simp [VRs] at k
 | _ :: _,[],k=>by simp [VRs] at k
end
theorem VR.mono {g g':Gh} (h:g.le g') (x:AV) (v:Value):VR g x v→VR g' x v:=VR.cmono h.cle x v
theorem Zp.mono {g g':Gh} (h:g.le g') (c:Array Value) (o:Nat) (xs:List AV):Zp g c o xs→Zp g' c o xs:=Zp.cmono h.cle c o xs
theorem Z0.mono {g g':Gh} (h:g.le g') (c:Array Value) (sz:Nat) (o:Nat) (xs:List (List AV)):Z0 g c sz o xs→Z0 g' c sz o xs:=Z0.cmono h.cle c sz o xs
theorem VRs.mono {g g':Gh} (h:g.le g') (xs:List AV) (vs:List Value):VRs g xs vs→VRs g' xs vs:=VRs.cmono h.cle xs vs
structure Ob where
 sz:Nat
 rows:List (List AV)
 ty:Option (Nat×Nat)
def TyOK (x:Option (TypeId×Nat)) (ty:Option (Nat×Nat)):Prop:=∀ t k,ty = some (t,k)→∃ n,x = some (t,n)∧(k≠0→n = k)
theorem TyOK.none (x:Option (TypeId×Nat)):TyOK x .none:=fun _ _ h=>by cases h
theorem TyOK.mono {x x':Option (TypeId×Nat)} {ty:Option (Nat×Nat)} (h:TyOK x ty) (k:∀ y,x = some y→x' = some y):TyOK x' ty:=fun t m e=>by
 obtain ⟨n,h1,h2⟩:=h t m e
 exact ⟨n,k _ h1,h2⟩
def Kn (e:Nat) (ty:Option (Nat×Nat)):Option (Nat×Nat):=match ty with
 | some (t,_)=>if t = e then some (e,0) else .none
 | .none=>.none
theorem keepTy_same (e m:Nat):Kn e (some (e,m)) = some (e,0):=by simp [Kn]
theorem keepTy_none (e:Nat):Kn e .none = .none:=by simp [Kn]
theorem TyOK.keep {x:Option (TypeId×Nat)} {ty:Option (Nat×Nat)} {e:Nat} (h:TyOK x ty):TyOK x (Kn e ty):=by
 unfold Kn
 split
 ·split
  ·rename_i q; subst q
   obtain ⟨n,h1,_⟩:=h _ _ rfl
   exact fun t k h=>by cases h; exact ⟨n,h1,fun h=>absurd rfl h⟩
  ·exact TyOK.none x
 ·exact TyOK.none x
theorem TyOK.keep' {e n:Nat} {ty:Option (Nat×Nat)}:TyOK (some (e,n)) (Kn e ty):=by
 unfold Kn
 split
 ·split
  ·exact fun t k h=>by cases h; exact ⟨n,rfl,fun h=>absurd rfl h⟩
  ·exact TyOK.none _
 ·exact TyOK.none _
theorem TyOK.row (e n:Nat):TyOK (some (e,n)) (some (e,0)):=fun t k h=>by cases h; exact ⟨n,rfl,fun h=>absurd rfl h⟩
theorem TyOK.var (e n:Nat):TyOK (some (e,n)) (some (e,n)):=fun t k h=>by cases h; exact ⟨n,rfl,fun _=>rfl⟩
structure Hp where
 c:Nat→Option Ob
 r:Nat→Option Obj
instance : CoeFun Hp (fun _=>Nat→Option Ob):=⟨Hp.c⟩
theorem Hp.ext {h h':Hp} (a:∀ b,h b = h' b) (b:∀ b,h.r b = h'.r b):h = h':=by
 cases h; cases h'
 congr
 ·exact funext a
 ·exact funext b
def Hp.nil:Hp:=⟨fun _=>none,fun _=>none⟩
def Hp.upd (h:Hp) (b:Nat) (o:Ob):Hp:=⟨fun k=>if k = b then some o else h k,h.r⟩
def Hp.updR (h:Hp) (b:Nat) (o:Obj):Hp:=⟨h.c,fun k=>if k = b then some o else h.r k⟩
def Hp.delR (h:Hp) (b:Nat):Hp:=⟨h.c,fun k=>if k = b then none else h.r k⟩
theorem Hp.updR_same (h:Hp) (b:Nat) (o:Obj):(h.updR b o).r b = some o:=by simp [Hp.updR]
theorem Hp.updR_ne (h:Hp) {b b':Nat} (o:Obj) (e:b'≠b):(h.updR b o).r b' = h.r b':=by simp [Hp.updR,e]
def Hp.del (h:Hp) (b:Nat):Hp:=⟨fun k=>if k = b then none else h k,h.r⟩
structure Hp.sub (h h':Hp):Prop where
 c:∀ b o,h b = some o→h' b = some o
 r:∀ b o,h.r b = some o→h'.r b = some o
instance {h h':Hp}:CoeFun (h.sub h') (fun _=>∀ b o,h b = some o→h' b = some o):=⟨Hp.sub.c⟩
def Kf:Obj→Bool
 | .cells ..=>false
 | _=>true
@[simp] theorem Hp.upd_same (h:Hp) (b:Nat) (o:Ob):h.upd b o b = some o:=by simp [Hp.upd]
theorem Hp.upd_ne (h:Hp) {b b':Nat} (o:Ob) (hne:b'≠b):h.upd b o b' = h b':=by simp [Hp.upd,hne]
theorem Hp.sub.refl (h:Hp):h.sub h:=⟨fun _ _ k=>k,fun _ _ k=>k⟩
theorem Hp.sub.trans {a b c:Hp} (h:a.sub b) (k:b.sub c):a.sub c:=⟨fun x o hx=>k x o (h x o hx),fun x o hx=>k.r x o (h.r x o hx)⟩
theorem Hp.sub.upd {h0 h:Hp} (k:h0.sub h) {b:Nat} (o:Ob) (hb:h0 b = none):h0.sub (h.upd b o):=by
 refine ⟨fun x ox hx=>?_,k.r⟩
 rw [Hp.upd_ne]; exact k x ox hx
 intro e; subst e; rw [hb] at hx; cases hx
theorem Hp.sub.none {h0 h:Hp} (k:h0.sub h) {b:Nat} (hb:h b = none):h0 b = none:=by
 cases e:h0 b with
 | none=>rfl
 | some o=>rw [k b o e] at hb; cases hb
def Thawed (fr:Nat×Nat) (n:Nat):Prop:=fr.2≤fr.1∨n≤fr.1
def Ydb (w:World) (b:Nat) (c:Array Value) (e:TypeId):Prop:=∃ fr,w.heap[b]? = some (.cells c e fr)∧Thawed fr c.size
theorem Ydb.of {w w':World} {b:Nat} {c:Array Value} {e:TypeId} (h:Ydb w b c e) (k:∀ o,w.heap[b]? = some o→w'.heap[b]? = some o):Ydb w' b c e:=
 let ⟨fr,a,t⟩:=h; ⟨fr,k _ a,t⟩
theorem Ydb.plain {w:World} {b:Nat} {c:Array Value} {e:TypeId} (h:w.heap[b]? = some (.cells c e (0,0))):Ydb w b c e:=⟨_,h,.inl (Nat.le_refl _)⟩
structure HR (g:Gh) (h:Hp) (w:World):Prop where
 os:w.os = g.w0.os
 tape:w.tape = g.w0.tape
 output:w.output = g.w0.output
 size:g.w0.heap.size≤w.heap.size
 fz:∀ b o,g.fz b = some o→w.heap[b]? = some o
 shp:∀ b x,g.shp b = some x→w.shape? b = some x
 ob:∀ b o,h b = some o→(g.fz b = none∧TyOK (g.shp b) o.ty)∧∃ c e,Ydb w b c e∧g.shp b = some (e,c.size)∧Z0 g c o.sz 0 o.rows
 gl:Glob g.fz
 raw:∀ b o,h.r b = some o→(w.heap[b]? = some o∧Kf o = true)∧g.fz b = none
theorem HR.raw_ne {g:Gh} {h:Hp} {w:World} (k:HR g h w) {b x:Nat} {o:Ob} {y:Obj} (hb:h b = some o) (hx:h.r x = some y):x≠b:=by
 rintro rfl
 obtain ⟨_,c,e,⟨fr,a,_⟩,_⟩:=k.ob _ o hb
 have:=(k.raw _ y hx).1
 rw [a] at this
 cases this.1; simp [Kf] at this
theorem HR.forget {g:Gh} {h h':Hp} {w:World} (k:HR g h w) (hs:h'.sub h):HR g h' w:=
 {k with ob:=fun b o hb=>k.ob b o (hs b o hb),raw:=fun b o hb=>k.raw b o (hs.r b o hb) }
theorem HR.drew {g:Gh} {h:Hp} {w:World} (k:HR g h w):HR g h { w with drawn:=w.drawn+1 }:=
 {os:=k.os,tape:=k.tape,output:=k.output,size:=k.size,fz:=k.fz,shp:=k.shp,ob:=k.ob,gl:=k.gl,raw:=k.raw }
theorem Zp.get {g:Gh} {c:Array Value}:∀ {o:Nat} {xs:List AV} {k:Nat} {x:AV},Zp g c o xs→xs[k]? = some x→∃ v,c[o+k]? = some v∧v.oneCell' = true∧VR g x v
 | o,y :: ys,0,x,h,e=>by
  simp only [Zp] at h
  simp at e; subst e; simpa using h.1
 | o,y :: ys,k+1,x,h,e=>by
  simp only [Zp] at h
  have:=Zp.get (o:=o+1) (k:=k) h.2 (by simpa using e)
  rwa [Nat.add_assoc,Nat.add_comm 1 k] at this
theorem Zp.of_get {g:Gh} {c:Array Value}:∀ {o:Nat} {xs:List AV},(∀ k x,xs[k]? = some x→∃ v,c[o+k]? = some v∧v.oneCell' = true∧VR g x v)→Zp g c o xs
 | _,[],_=>by simp [Zp]
 | o,x :: xs,h=>by
  simp only [Zp]
  refine ⟨by simpa using h 0 x (by simp),Zp.of_get fun k y hy=>?_⟩
  have:=h (k+1) y (by simpa using hy)
  rwa [Nat.add_comm k 1,← Nat.add_assoc] at this
theorem Zp.bound {g:Gh} {c:Array Value} {o:Nat} {xs:List AV} (h:Zp g c o xs):xs = []∨o+xs.length≤c.size:=by
 by_cases e:xs = []
 ·exact .inl e
 ·right
  have hl:0 < xs.length:=List.length_pos_iff.2 e
  obtain ⟨v,hv,_⟩:=h.get (k:=xs.length - 1) (x:=xs[xs.length - 1]) (List.getElem?_eq_getElem (by omega))
  have:=(Array.getElem?_eq_some_iff.1 hv).1
  omega
theorem Zp.congr {g:Gh} {c c':Array Value} {o o':Nat} {xs:List AV} (h:Zp g c o xs) (e:∀ k,k < xs.length→c'[o'+k]? = c[o+k]?):Zp g c' o' xs:=
 Zp.of_get fun k x hx=>by
  rw [e k (List.getElem?_eq_some_iff.1 hx).1]; exact h.get hx
theorem Zp.drop {g:Gh} {c:Array Value} {o:Nat} {xs:List AV} (h:Zp g c o xs) (k:Nat):Zp g c (o+k) (xs.drop k):=
 Zp.of_get fun j x hx=>by
  rw [List.getElem?_drop] at hx
  have:=h.get hx
  rwa [← Nat.add_assoc] at this
theorem Zp.take {g:Gh} {c:Array Value} {o:Nat} {xs:List AV} (h:Zp g c o xs) (k:Nat):Zp g c o (xs.take k):=
 Zp.of_get fun j x hx=>h.get (by rw [List.getElem?_take] at hx; split at hx; exact hx; cases hx)
theorem Zp.append {g:Gh} {c:Array Value} {o:Nat} {xs ys:List AV} (h:Zp g c o xs) (k:Zp g c (o+xs.length) ys):Zp g c o (xs++ys):=
 Zp.of_get fun j x hx=>by
  rw [List.getElem?_append] at hx
  split at hx
  ·exact h.get hx
  ·have:=k.get hx
   rwa [show o+xs.length+(j - xs.length) = o+j from by omega] at this
theorem Z0.get {g:Gh} {c:Array Value} {sz:Nat}:∀ {o:Nat} {rs:List (List AV)} {i:Nat} {r:List AV},Z0 g c sz o rs→rs[i]? = some r→r.length = sz∧Zp g c (o+i * sz) r
 | o,y :: ys,0,r,h,e=>by
  simp only [Z0] at h
  simp at e; subst e; exact ⟨h.1,by simpa using h.2.1⟩
 | o,y :: ys,i+1,r,h,e=>by
  simp only [Z0] at h
  have:=Z0.get (o:=o+sz) (i:=i) h.2.2 (by simpa using e)
  rwa [Nat.add_assoc,show sz+i * sz = (i+1) * sz from by rw [Nat.add_mul]; omega] at this
theorem Z0.of_get {g:Gh} {c:Array Value} {sz:Nat}:∀ {o:Nat} {rs:List (List AV)},(∀ i r,rs[i]? = some r→r.length = sz∧Zp g c (o+i * sz) r)→Z0 g c sz o rs
 | _,[],_=>by simp [Z0]
 | o,r :: rs,h=>by
  simp only [Z0]
  have h0:=h 0 r (by simp)
  refine ⟨h0.1,by simpa using h0.2,Z0.of_get fun i q hq=>?_⟩
  have:=h (i+1) q (by simpa using hq)
  rwa [show o+(i+1) * sz = o+sz+i * sz from by rw [Nat.add_mul]; omega] at this
theorem Z0.congr {g:Gh} {c c':Array Value} {sz o o':Nat} {rs:List (List AV)} (h:Z0 g c sz o rs) (e:∀ k,k < rs.length * sz→c'[o'+k]? = c[o+k]?):Z0 g c' sz o' rs:=
 Z0.of_get fun i r hr=>by
  have:=h.get hr
  have hi:=(List.getElem?_eq_some_iff.1 hr).1
  refine ⟨this.1,this.2.congr fun k hk=>?_⟩
  have hlt:i * sz+k < rs.length * sz:=by
   have:(i+1) * sz≤rs.length * sz:=Nat.mul_le_mul_right _ hi
   rw [Nat.add_mul] at this; omega
  have:=e (i * sz+k) hlt
  rwa [← Nat.add_assoc,← Nat.add_assoc] at this
theorem Z0.drop {g:Gh} {c:Array Value} {sz o:Nat} {rs:List (List AV)} (h:Z0 g c sz o rs) (k:Nat):Z0 g c sz (o+k * sz) (rs.drop k):=
 Z0.of_get fun i r hr=>by
  rw [List.getElem?_drop] at hr
  have:=h.get hr
  rwa [Nat.add_mul,← Nat.add_assoc] at this
theorem Z0.take {g:Gh} {c:Array Value} {sz o:Nat} {rs:List (List AV)} (h:Z0 g c sz o rs) (k:Nat):Z0 g c sz o (rs.take k):=
 Z0.of_get fun i r hr=>h.get (by rw [List.getElem?_take] at hr; split at hr; exact hr; cases hr)
theorem Z0.append {g:Gh} {c:Array Value} {sz o:Nat} {rs qs:List (List AV)} (h:Z0 g c sz o rs) (k:Z0 g c sz (o+rs.length * sz) qs):Z0 g c sz o (rs++qs):=
 Z0.of_get fun i r hr=>by
  rw [List.getElem?_append] at hr
  split at hr
  ·exact h.get hr
  ·rename_i hlt
   have:=k.get hr
   rwa [Nat.add_assoc,← Nat.add_mul,show rs.length+(i - rs.length) = i from by omega] at this
theorem Z0.bound {g:Gh} {c:Array Value} {sz o:Nat} {rs:List (List AV)} (h:Z0 g c sz o rs):rs.length * sz = 0∨o+rs.length * sz≤c.size:=by
 by_cases e:rs = []
 ·subst e; simp
 ·have hl:0 < rs.length:=List.length_pos_iff.2 e
  have:=h.get (i:=rs.length - 1) (r:=rs[rs.length - 1]) (List.getElem?_eq_getElem (by omega))
  rcases this.2.bound with h0 | hb
  ·left
   have:sz = 0:=by rw [← this.1,h0]; rfl
   simp [this]
  ·right
   rw [this.1] at hb
   have e2:rs.length * sz = (rs.length - 1) * sz+sz:=by
    rw [← Nat.succ_mul]; congr 1; omega
   omega
theorem VRs.get {g:Gh}:∀ {xs:List AV} {vs:List Value} {k:Nat} {x:AV},VRs g xs vs→xs[k]? = some x→∃ v,vs[k]? = some v∧VR g x v
 | x :: xs,v :: vs,0,y,h,e=>by simp only [VRs] at h; simp at e; subst e; exact ⟨v,by simp,h.1⟩
 | x :: xs,v :: vs,k+1,y,h,e=>by
  simp only [VRs] at h
  obtain ⟨u,hu,hv⟩:=VRs.get h.2 (by simpa using e)
  exact ⟨u,by simpa using hu,hv⟩
theorem VRs.length {g:Gh}:∀ {xs:List AV} {vs:List Value},VRs g xs vs→xs.length = vs.length
 | [],[],_=>rfl
 | x :: xs,v :: vs,h=>by simp only [VRs] at h; simp [VRs.length h.2]
theorem VRs.append {g:Gh}:∀ {xs ys:List AV} {vs us:List Value},VRs g xs vs→VRs g ys us→VRs g (xs++ys) (vs++us)
 | [],_,[],_,_,k=>k
 | x :: xs,_,v :: vs,_,h,k=>by simp only [VRs] at h; exact ⟨h.1,VRs.append h.2 k⟩
theorem VRs.map {g:Gh} {α:Type} (f:α→AV) (k:α→Value):∀ (l:List α),(∀ x∈l,VR g (f x) (k x))→VRs g (l.map f) (l.map k)
 | [],_=>trivial
 | x :: l,h=>⟨h x (by simp),VRs.map f k l fun y hy=>h y (by simp [hy])⟩
end Go.Proofs.YtpkhmfedaaoalaaGreatDoor.AM
namespace Go.Proofs.YtpkhmfedaaoalaaGreatDoor.AM
open Go
inductive TK where
 | one
 | int (k:IntKind)
 | bool
 | str
 | sl (e:Nat)
 | ptr (e:Nat)
 | arr (n e:Nat)
 | struct (fs:List (Nat×Nat))
 | map (k e:Nat)
 | func
 | iface
structure TI where
 size:Nat
 bytes:Nat
 zero:List Value
 kind:TK
 eqs:Option (List (Nat×TK)):=none
def TK.agg:TK→Bool
 | .arr .. | .struct ..=>true
 | _=>false
def Kw:TypeDesc→TK
 | .int k=>.int k
 | .bool=>.bool
 | .string=>.str
 | .slice e=>.sl e
 | .pointer e=>.ptr e
 | .array n e=>.arr n e
 | .struct fs=>.struct (fs.toList.map fun f=>(f.offset,f.type))
 | .map k e=>.map k e
 | .func ..=>.func
 | .interface _=>.iface
 | _=>.one
def isAggV:Value→Bool
 | .agg _=>true
 | _=>false
def zeroOk (d:TypeDesc) (size:Nat) (z:Value):Bool:=
 z.cells.size == size && z.cells.all (·.oneCell') && (isAggV z == (Kw d).agg)
def Y0a (P:Program) (f:Field):Option (List (Nat×TK)):=
 if f.name = "_" then none else match P.underlying f.type with
  | some (.int k)=>some [(f.offset,.int k)]
  | some .bool=>some [(f.offset,.bool)]
  | some .string=>some [(f.offset,.str)]
  | some (.array n e)=>match P.underlying e,P.info? e,P.info? f.type with
   | some (.int k),some ie,some fi=>if ie.size = 1∧P.cellsOf e = 1∧n≤fi.size then some ((List.range n).map fun i=>(f.offset+i,.int k)) else none
   | _,_,_=>none
  | _=>none
def eqsOf (P:Program) (t:Nat) (d:TypeDesc):Option (List (Nat×TK)):=
 match d with
 | .struct fs=>match fs.toList.mapM (Y0a P) with
  | some es=>if P.stoodInHeld t || P.eqGuardType P.depth t then none else some es.flatten
  | none=>none
 | .array n e=>match P.underlying e with
  | some (.int k)=>if (P.info? e).isSome && P.cellsOf e == 1 && !P.eqGuardType P.depth t then some ((List.range n).map fun i=>(i,.int k)) else none
  | _=>none
 | _=>none
def mkTI (P:Program) (t:Nat):Option TI:=
 match P.info? t,P.underlying t with
 | some i,some d=>match i.zero with
  | some z=>if zeroOk d i.size z then some ⟨i.size,i.bytes,z.cells.toList,Kw d,eqsOf P t d⟩ else none
  | none=>none
 | _,_=>none
abbrev Tab:=Nat→Option TI
def Kb (P:Program) (T:Tab):Prop:=∀ t ti,T t = some ti→mkTI P t = some ti
structure TIs (P:Program) (t:Nat) (ti:TI) (i:TypeInfo) (d:TypeDesc) (z:Value):Prop where
 info:P.info? t = some i
 und:P.underlying t = some d
 zero:i.zero = some z
 size:i.size = ti.size
 bytes:i.bytes = ti.bytes
 zcells:z.cells.toList = ti.zero
 kind:Kw d = ti.kind
 eqs:eqsOf P t d = ti.eqs
 zsize:z.cells.size = ti.size
 zone:∀ v∈ti.zero,v.oneCell' = true
 zagg:isAggV z = ti.kind.agg
theorem Kb.get {P:Program} {T:Tab} (h:Kb P T) {t:Nat} {ti:TI} (e:T t = some ti):∃ i d z,TIs P t ti i d z:=by
 have:=h t ti e
 unfold mkTI at this
 split at this
 ·rename_i i d hi hd
  split at this
  ·rename_i z hz
   split at this
   ·rename_i hok
    simp only [zeroOk,Bool.and_eq_true,beq_iff_eq] at hok
    obtain ⟨⟨h1,h2⟩,h3⟩:=hok
    cases this
    exact ⟨i,d,z,hi,hd,hz,rfl,rfl,rfl,rfl,rfl,h1,fun v hv=>(Array.all_eq_true_iff_forall_mem.1 h2) v (by simpa using hv),by simpa using h3⟩
   ·cases this
  ·cases this
 ·cases this
section
variable {P:Program} {T:Tab} {t:Nat} {ti:TI} {i:TypeInfo} {d:TypeDesc} {z:Value} (h:TIs P t ti i d z) (w:World)
include h
theorem TIs.run_und:(underlying t).run P w = .ok d w:=run_underlying h.und w
theorem TIs.run_size:(sizeOf t).run P w = .ok ti.size w:=by simp [sizeOf,typeInfo,h.info,h.size]
theorem TIs.run_zero:(zeroValue t).run P w = .ok z w:=by simp [zeroValue,typeInfo,h.info,h.zero]
theorem TIs.run_agg:(isAgg t).run P w = .ok ti.kind.agg w:=by
 unfold isAgg
 rw [Sem.run_bind,h.run_und w,← h.kind]
 cases d <;> simp [Kw,TK.agg]
theorem TIs.sl {e:Nat} (hk:ti.kind = .sl e):d = .slice e:=by
 have:=h.kind; rw [hk] at this; cases d <;> simp [Kw] at this; rw [this]
theorem TIs.arr {n e:Nat} (hk:ti.kind = .arr n e):d = .array n e:=by
 have:=h.kind; rw [hk] at this; cases d <;> simp [Kw] at this; rw [this.1,this.2]
theorem TIs.ptr {e:Nat} (hk:ti.kind = .ptr e):d = .pointer e:=by
 have:=h.kind; rw [hk] at this; cases d <;> simp [Kw] at this; rw [this]
theorem TIs.str (hk:ti.kind = .str):d = .string:=by
 have:=h.kind; rw [hk] at this; cases d <;> simp [Kw] at this; rfl
theorem TIs.int {k:IntKind} (hk:ti.kind = .int k):d = .int k:=by
 have:=h.kind; rw [hk] at this; cases d <;> simp [Kw] at this; rw [this]
theorem TIs.boolean (hk:ti.kind = .bool):d = .bool:=by
 have:=h.kind; rw [hk] at this; cases d <;> simp [Kw] at this; rfl
theorem TIs.map {k e:Nat} (hk:ti.kind = .map k e):d = .map k e:=by
 have:=h.kind; rw [hk] at this; cases d <;> simp [Kw] at this; rw [this.1,this.2]
theorem TIs.struct {fs:List (Nat×Nat)} (hk:ti.kind = .struct fs):∃ fields,d = .struct fields∧fields.toList.map (fun f=>(f.offset,f.type)) = fs:=by
 have:=h.kind; rw [hk] at this; cases d <;> simp [Kw] at this; exact ⟨_,rfl,this⟩
end
def Y3:Value→AV
 | .agg cs=>if cs.all Value.oneCell' then .agg (cs.toList.map .val) else .any
 | v=>.val v
def ev (tm:List AV):Operand→AV
 | .tmp t=>tm.getD t .any
 | .const v=>Y3 v
 | .global _=>.any
 | .func f=>.fn (.func f) [] []
structure TR (g:Gh) (tm:List AV) (tmps:Array Value):Prop where
 len:tmps.size = tm.length
 at_:∀ (k:Nat) (x:AV),tm[k]? = some x→∃ v,tmps[k]? = some v∧VR g x v
theorem VR.vals (g:Gh) (cs:Array Value) (h:cs.all Value.oneCell' = true):Zp g cs 0 (cs.toList.map .val):=
 Zp.of_get fun k x hx=>by
  rw [List.getElem?_map] at hx
  cases e:cs.toList[k]? with
  | none=>rw [e] at hx; cases hx
  | some v=>
   rw [e] at hx; cases hx
   refine ⟨v,by simpa using e,(Array.all_eq_true_iff_forall_mem.1 h) v ?_,by simp [VR]⟩
   have:=List.mem_of_getElem? e; simpa using this
theorem Wf (g:Gh) (v:Value):VR g (Y3 v) v:=by
 cases v <;> simp only [Y3] <;> try (simp [VR]; done)
 rename_i cs
 split
 ·rename_i h
  exact by simp only [VR]; exact ⟨cs,rfl,VR.vals g cs h,by simp⟩
 ·simp [VR]
theorem TR.ev {g:Gh} {tm:List AV} {a:Act} (h:TR g tm a.tmps) (x:Operand):VR g (ev tm x) (a.eval x):=by
 cases x with
 | tmp t=>
  simp only [AM.ev,Act.eval,List.getD]
  cases e:tm[t]? with
  | none=>simp [VR]
  | some y=>
   obtain ⟨v,hv,hr⟩:=h.at_ t y e
   simpa [hv] using hr
 | const v=>exact Wf g v
 | global n=>simp [AM.ev,VR]
 | func f=>simp only [AM.ev,Act.eval,VR]; exact ⟨#[],#[],rfl,by simp [VRs],by simp [VRs]⟩
theorem TR.mono {g g':Gh} {tm:List AV} {tmps:Array Value} (h:TR g tm tmps) (k:g.le g'):TR g' tm tmps:=
 ⟨h.len,fun i x hx=>let ⟨v,hv,hr⟩:=h.at_ i x hx; ⟨v,hv,hr.mono k _ _⟩⟩
def put (tm:List AV) (d:Option Nat) (v:AV):List AV:=match d with | some d=>tm.set d v | none=>tm
theorem TR.put {g:Gh} {tm:List AV} {a:Act} (h:TR g tm a.tmps) (d:Option Nat) {x:AV} {v:Value} (hv:VR g x v):TR g (put tm d x) (a.put d v).tmps:=by
 cases d with
 | none=>exact h
 | some d=>
  refine ⟨by simp [Act.put,AM.put,h.len],fun k y hy=>?_⟩
  simp only [AM.put,List.getElem?_set] at hy
  simp only [Act.put,Array.getElem?_setIfInBounds]
  split at hy
  ·rename_i e
   subst e
   split at hy
   ·rename_i hl
    cases hy
    exact ⟨v,by simp [h.len,hl],hv⟩
   ·cases hy
  ·rename_i e
   obtain ⟨u,hu,hr⟩:=h.at_ k y hy
   exact ⟨u,by simp [e,hu],hr⟩
theorem TR.evs {g:Gh} {tm:List AV} {a:Act} (h:TR g tm a.tmps):∀ (xs:List Operand),VRs g (xs.map (AM.ev tm)) (xs.map a.eval)
 | []=>trivial
 | x :: xs=>⟨h.ev x,h.evs xs⟩
def AV.cells:AV→List AV
 | .agg cs=>cs
 | x=>[x]
def AV.one:AV→Bool
 | .any | .agg _ | .tup _=>false
 | .val v=>v.oneCell'
 | _=>true
def AV.okCells:AV→Bool
 | .agg _=>true
 | x=>x.one
theorem VR.one {g:Gh} {x:AV} {v:Value} (h:VR g x v) (k:x.one = true):v.oneCell' = true:=by
 cases x <;> simp only [AV.one,Bool.false_eq_true] at k <;> simp only [VR] at h
 ·subst h; exact k
 ·obtain ⟨_,_,rfl,_⟩:=h; rfl
 ·obtain ⟨_,_,rfl,_⟩:=h; rfl
 ·obtain ⟨_,_,_,_,rfl,_⟩:=h; rfl
 ·subst h; rfl
 ·obtain ⟨_,_,rfl,_⟩:=h; rfl
 ·obtain ⟨_,rfl,_⟩:=h; rfl
 ·obtain ⟨rfl,_⟩:=h; rfl
 ·obtain ⟨_,_,rfl,_⟩:=h; rfl
theorem Value.cells_one {v:Value} (h:v.oneCell' = true):v.cells = #[v]:=by
 cases v <;> simp [Value.oneCell'] at h <;> rfl
theorem VR.okCells {g:Gh} {x:AV} {v:Value} (h:VR g x v) (k:x.okCells = true):Zp g v.cells 0 x.cells∧v.cells.size = x.cells.length:=by
 have key:x.one = true→x.cells = [x]→Zp g v.cells 0 x.cells∧v.cells.size = x.cells.length:=by
  intro h1 h2
  have:=VR.one h h1
  rw [h2,Value.cells_one this]
  refine ⟨?_,rfl⟩
  simp only [Zp]
  exact ⟨⟨v,rfl,this,h⟩,trivial⟩
 cases x with
 | agg cs=>
  simp only [VR] at h
  obtain ⟨vs,rfl,h1,h2⟩:=h
  exact ⟨h1,h2⟩
 | _=>exact key k rfl
def abin (op:BinOp) (tk:TK) (x y:AV):Option AV:=
 match x,y with
 | .val (.int k a),.val (.int k' b)=>
  match op with
  | .shl=>if 0≤b then some (.val (.int k (k.wrap (a * 2 ^ (min b.toNat k.bits))))) else none
  | .shr=>if 0≤b then some (.val (.int k (a.fdiv (2 ^ (min b.toNat k.bits))))) else none
  | op=>if k = k' then
   match op with
   | .add=>some (.val (.int k (k.wrap (a+b))))
   | .sub=>some (.val (.int k (k.wrap (a - b))))
   | .mul=>some (.val (.int k (k.wrap (a * b))))
   | .quo=>if b = 0 then none else some (.val (.int k (k.wrap (a.tdiv b))))
   | .rem=>if b = 0 then none else some (.val (.int k (a.tmod b)))
   | .and=>some (.val (.int k (k.wrap (BitVec.ofInt k.bits a &&& BitVec.ofInt k.bits b).toNat)))
   | .or=>some (.val (.int k (k.wrap (BitVec.ofInt k.bits a ||| BitVec.ofInt k.bits b).toNat)))
   | .xor=>some (.val (.int k (k.wrap (BitVec.ofInt k.bits a ^^^ BitVec.ofInt k.bits b).toNat)))
   | .andNot=>some (.val (.int k (k.wrap (BitVec.ofInt k.bits a &&& ~~~ BitVec.ofInt k.bits b).toNat)))
   | .eql=>some (Zk (a == b))
   | .neq=>some (Zk (a != b))
   | .lss=>some (Zk (decide (a < b)))
   | .leq=>some (Zk (decide (a≤b)))
   | .gtr=>some (Zk (decide (a > b)))
   | .geq=>some (Zk (decide (a≥b)))
   | _=>none
   else none
 | .val (.string a),.val (.string b)=>
  match op with
  | .add=>if a.size+b.size≤9223372036854775807 then some (astr (a++b)) else none
  | .eql=>some (Zk (a.toList == b.toList))
  | .neq=>some (Zk (!(a.toList == b.toList)))
  | .lss=>some (Zk (Op.bytesLess a.toList b.toList))
  | .leq=>some (Zk (Op.bytesLess a.toList b.toList || a.toList == b.toList))
  | .gtr=>some (Zk (!(Op.bytesLess a.toList b.toList || a.toList == b.toList)))
  | .geq=>some (Zk (!Op.bytesLess a.toList b.toList))
  | _=>none
 | .val (.bool a),.val (.bool b)=>
  match op,tk with
  | .eql,.bool=>some (Zk (a == b))
  | .neq,.bool=>some (Zk (!(a == b)))
  | _,_=>none
 | .val (.slice none 0 0),.val (.slice none 0 0)=>match op,tk with | .eql,.sl _=>some (Zk true) | .neq,.sl _=>some (Zk false) | _,_=>none
 | .osl ..,.val (.slice none 0 0)=>match op,tk with | .eql,.sl _=>some (Zk false) | .neq,.sl _=>some (Zk true) | _,_=>none
 | .isl _ (_ :: _),.val (.slice none 0 0)=>match op,tk with | .eql,.sl _=>some (Zk false) | .neq,.sl _=>some (Zk true) | _,_=>none
 | .optr ..,.val (.pointer none)=>match op,tk with | .eql,.ptr _=>some (Zk false) | .neq,.ptr _=>some (Zk true) | _,_=>none
 | .val (.pointer (some _)),.val (.pointer none)=>match op,tk with | .eql,.ptr _=>some (Zk false) | .neq,.ptr _=>some (Zk true) | _,_=>none
 | .iptr ..,.val (.pointer none)=>match op,tk with | .eql,.ptr _=>some (Zk false) | .neq,.ptr _=>some (Zk true) | _,_=>none
 | .val (.pointer none),.val (.pointer none)=>match op,tk with | .eql,.ptr _=>some (Zk true) | .neq,.ptr _=>some (Zk false) | _,_=>none
 | .fn ..,.val .nilFunc=>match op,tk with | .eql,.func=>some (Zk false) | .neq,.func=>some (Zk true) | _,_=>none
 | _,_=>none
def aeqs:List (Nat×TK)→List AV→List AV→Option Bool
 | [],_,_=>some true
 | (off,k) :: es,xs,ys=>match k,xs[off]?,ys[off]?,aeqs es xs ys with
  | .int _,some (.val (.int j a)),some (.val (.int k b)),some r=>if j = k then some (decide (a = b) && r) else none
  | .str,some (.val (.string a)),some (.val (.string b)),some r=>some (decide (a.toList = b.toList) && r)
  | .bool,some (.val (.bool a)),some (.val (.bool b)),some r=>some (decide (a = b) && r)
  | _,_,_,_=>none
def Y5a (op:BinOp) (ti:TI) (x y:AV):Option AV:=
 match x,y with
 | .agg xs,.agg ys=>match op,ti.eqs with
  | .eql,some es=>(aeqs es xs ys).map Zk
  | .neq,some es=>(aeqs es xs ys).map fun r=>Zk (!r)
  | _,_=>none
 | x,y=>abin op ti.kind x y
def aun (op:UnOp) (x:AV):Option AV:=
 match op,x with
 | .neg,.val (.int k n)=>some (.val (.int k (k.wrap (0 - n))))
 | .not,.val (.bool b)=>some (Zk (!b))
 | _,_=>none
def apart (ti:TI) (cs:List AV) (off:Nat):Option AV:=
 if ti.kind.agg then (if off+ti.size≤cs.length then some (.agg ((cs.drop off).take ti.size)) else none) else cs[off]?
def afield (T:Tab) (t:Nat) (f:Nat):Option (Nat×TI):=
 match T t with
 | some ti=>match ti.kind with
  | .struct fs=>match fs[f]? with
   | some (off,ft)=>match T ft with
    | some fi=>if fi.size = 0 then none else some (off,fi)
    | none=>none
   | none=>none
  | _=>none
 | none=>none
def Kl (T:Tab) (t:Nat) (x:AV) (f:Nat):Option AV:=
 match afield T t f with
 | some (off,_)=>match x with
  | .iptr r c=>some (.iptr r (c+off))
  | .optr b sz i c=>some (.optr b sz i (c+off))
  | .val (.pointer (some ⟨b,c,none⟩))=>match T t with
   | some ti=>some (.optr b ti.size 0 (c+off))
   | none=>none
  | _=>none
 | none=>none
def Wla (T:Tab) (t:Nat) (x:AV) (f:Nat):Option AV:=
 match afield T t f with
 | some (off,fi)=>match x with
  | .agg cs=>apart fi cs off
  | _=>none
 | none=>none
def atInt:AV→Option Int
 | .val (.int _ n)=>some n
 | _=>none
def Wt (T:Tab) (t:Nat) (x i:AV):Option AV:=
 match T t,atInt i with
 | some ti,some n=>if 0≤n then
   match ti.kind,x with
   | .sl e,.isl sz rows=>match T e with
    | some ei=>if ei.size = sz then match rows[n.toNat]? with
     | some r=>some (.iptr r 0)
     | none=>none else none
    | none=>none
   | .sl e,.osl b sz off len=>match T e with
    | some ei=>if ei.size = sz∧n.toNat < len then some (.optr b sz (off+n.toNat) 0) else none
    | none=>none
   | .arr m e,.optr b sz r c=>match T e with
    | some ei=>if n.toNat < m then some (.optr b sz r (c+n.toNat * ei.size)) else none
    | none=>none
   | .arr m e,.iptr r c=>match T e with
    | some ei=>if n.toNat < m then some (.iptr r (c+n.toNat * ei.size)) else none
    | none=>none
   | _,_=>none
  else none
 | _,_=>none
def Xsb (T:Tab) (t:Nat) (x i:AV):Option AV:=
 match T t,atInt i with
 | some ti,some n=>if 0≤n then
   match ti.kind,x with
   | .arr m e,.agg cs=>match T e with
    | some ei=>if n.toNat < m then apart ei cs (n.toNat * ei.size) else none
    | none=>none
   | .str,.val (.string s)=>match s[n.toNat]? with
    | some c=>some (Yab c.toNat)
    | none=>none
   | _,_=>none
  else none
 | _,_=>none
def Vy (d:Nat):Option AV→Option Nat
 | none=>some d
 | some (.val (.int _ n))=>if 0≤n then some n.toNat else none
 | _=>none
def Zea (T:Tab) (t:Nat) (x:AV) (lo hi:Option AV):Option AV:=
 match T t with
 | some ti=>match ti.kind,x with
  | .sl e,.isl sz rows=>match T e,Vy 0 lo,Vy rows.length hi with
   | some ei,some l,some h=>if ei.size = sz∧l≤h∧h≤rows.length then some (.isl sz ((rows.take h).drop l)) else none
   | _,_,_=>none
  | .sl e,.osl b sz off len=>match T e,Vy 0 lo,Vy len hi with
   | some ei,some l,some h=>if ei.size = sz∧l≤h∧h≤len then some (.osl b sz (off+l) (h - l)) else none
   | _,_,_=>none
  | .sl e,.val (.slice none 0 0)=>match T e,Vy 0 lo,Vy 0 hi with
   | some _,some 0,some 0=>some anil
   | _,_,_=>none
  | .str,.val (.string s)=>match Vy 0 lo,Vy s.size hi with
   | some l,some h=>if l≤h∧h≤s.size then some (astr (s.extract l h)) else none
   | _,_=>none
  | _,_=>none
 | none=>none
def aconv (T:Tab) (src dst:Nat) (x:AV):Option AV:=
 match T src,T dst with
 | some si,some di=>match si.kind,di.kind,x with
  | .int _,.int k,.val (.int _ n)=>some (.val (.int k (k.wrap n)))
  | .str,.str,.val (.string s)=>some (.val (.string s))
  | _,_,_=>none
 | _,_=>none
def alen (T:Tab) (t:Nat) (x:AV):Option AV:=
 match T t with
 | some ti=>match ti.kind,x with
  | .sl _,.isl _ rows=>some (aint rows.length)
  | .sl _,.osl _ _ _ n=>some (aint n)
  | .sl _,.val (.slice none 0 0)=>some (aint 0)
  | .str,.val (.string s)=>some (aint s.size)
  | .arr n _,_=>some (aint n)
  | _,_=>none
 | none=>none
def Xpb (T:Tab) (k:TK) (i:Nat):Option (Nat×Nat):=
 match k with
 | .struct fs=>match fs[i]? with
  | some (off,ft)=>match T ft with
   | some fi=>some (off,fi.size)
   | none=>none
  | none=>none
 | .arr _ e=>match T e with
  | some ei=>some (i * ei.size,ei.size)
  | none=>none
 | _=>none
def Kda (T:Tab):TK→Bool
 | .struct fs=>fs.all fun p=>(T p.2).isSome
 | .arr _ e=>(T e).isSome
 | _=>false
def Z8b (place:Nat→Option (Nat×Nat)):List AV→List (Nat×AV)→Option (List AV)
 | cells,[]=>some cells
 | cells,(i,x) :: rest=>
  match place i with
  | none=>none
  | some (off,size)=>
   if x.okCells = true∧x.cells.length = size∧off+size≤cells.length then
    Z8b place (cells.take off++x.cells++cells.drop (off+size)) rest
   else none
def abuild (T:Tab) (t:Nat) (parts:List (Nat×AV)):Option AV:=
 match T t with
 | some ti=>if Kda T ti.kind = true then match Z8b (Xpb T ti.kind) (ti.zero.map .val) parts with
   | some cs=>some (.agg cs)
   | none=>none
  else none
 | none=>none
def aloadI (T:Tab) (t:Nat) (x:AV):Option AV:=
 match T t,x with
 | some ti,.iptr r c=>apart ti r c
 | _,_=>none
def aifc (op:BinOp) (x:AV) (y:Operand):Option AV:=
 match op,x,y with
 | .eql,.val .nilIface,.const .nilIface=>some (Zk true)
 | .neq,.val .nilIface,.const .nilIface=>some (Zk false)
 | .eql,.ifc _ _,.const .nilIface=>some (Zk false)
 | .neq,.ifc _ _,.const .nilIface=>some (Zk true)
 | _,_,_=>none
def Xza (ti:TI):Value:=if ti.kind.agg then .agg ti.zero.toArray else ti.zero.headD default
def atas (ti:TI) (t:Nat) (x:AV):Option AV:=
 match ti.kind,x with
 | .iface,_=>none
 | _,.ifc u v=>some (if u = t then .tup [v,Zk true] else .tup [Y3 (Xza ti),Zk false])
 | _,.val .nilIface=>some (.tup [Y3 (Xza ti),Zk false])
 | _,_=>none
def amax (x y:AV):Option AV:=match x,y with
 | .val (.int k a),.val (.int k' b)=>if k = k' then some (.val (.int k (if b > a then b else a))) else none
 | _,_=>none
def amin (x y:AV):Option AV:=match x,y with
 | .val (.int k a),.val (.int k' b)=>if k = k' then some (.val (.int k (if b < a then b else a))) else none
 | _,_=>none
def Wz (T:Tab) (op:Op) (ρ:Operand→AV):Option AV:=
 match op with
 | .move x | .assign x=>some (ρ x)
 | .pick c a b=>match ρ c with
  | .val (.bool t)=>some (if t then ρ a else ρ b)
  | _=>none
 | .binOp op t x y _=>match T t with
  | some ti=>match aifc op (ρ x) y with
   | some z=>match ti.kind with
    | .iface=>some z
    | _=>none
   | none=>Y5a op ti (ρ x) (ρ y)
  | none=>none
 | .unOp op _ x=>aun op (ρ x)
 | .fieldAddr t x f=>Kl T t (ρ x) f
 | .field t x f=>Wla T t (ρ x) f
 | .indexAddr t x i=>Wt T t (ρ x) (ρ i)
 | .index t x i=>Xsb T t (ρ x) (ρ i)
 | .slice t x lo hi none=>Zea T t (ρ x) (lo.map ρ) (hi.map ρ)
 | .convert s d x=>aconv T s d (ρ x)
 | .extract x i=>match ρ x with
  | .tup vs=>vs[i]?
  | _=>none
 | .makeFunc f first caps=>some (.fn f (first.toList.map ρ) (caps.toList.map ρ))
 | .build t parts=>abuild T t (parts.toList.map fun p=>(p.1,ρ p.2))
 | .load t x=>aloadI T t (ρ x)
 | .nilCheck x=>match ρ x with
  | .iptr r c=>some (.iptr r c)
  | .optr b sz i c=>some (.optr b sz i c)
  | .val (.pointer (some a))=>some (.val (.pointer (some a)))
  | _=>none
 | .makeInterface t x=>match T t with
  | some ti=>match ti.kind with
   | .iface=>none
   | _=>some (.ifc t (ρ x))
  | none=>none
 | .call ⟨.builtin .len,args,tys⟩=>match args[0]?,tys[0]? with
  | some x,some t=>alen T t (ρ x)
  | _,_=>none
 | .call ⟨.builtin .max,args,_⟩=>match args.toList with
  | [x,y]=>amax (ρ x) (ρ y)
  | _=>none
 | .call ⟨.builtin .min,args,_⟩=>match args.toList with
  | [x,y]=>amin (ρ x) (ρ y)
  | _=>none
 | .typeAssert x _ t true=>match T t with
  | some ti=>atas ti t (ρ x)
  | none=>none
 | _=>none
end Go.Proofs.YtpkhmfedaaoalaaGreatDoor.AM
