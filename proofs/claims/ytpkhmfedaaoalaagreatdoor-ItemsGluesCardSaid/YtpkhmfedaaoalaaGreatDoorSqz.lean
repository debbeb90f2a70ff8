/- ItemsGlues: a part of its proof (packed by a program). -/
import Derived.Test.YtpkhmfedaaoalaaGreatDoorSqy
set_option linter.all false
namespace Go.Proofs.YtpkhmfedaaoalaaGreatDoor.Sq
open Go Go.Proofs.YtpkhmfedaaoalaaGreatDoor.AM
set_option maxHeartbeats 40000000
set_option maxRecDepth 100000
structure FE where
 key:Int
 blk:Nat
 pos:Nat
 f:Int×Int
def FE.L (e:FE):Int×Option Nat:=(e.key,some e.blk)
def FE.F (e:FE):Int×(Int×Int):=(e.key,e.f)
def pvO:Option Nat→Value
 | none=>.pointer none
 | some b=>.pointer (some ⟨b,0,none⟩)
def kvI (n:Int):Value:=.int .i64 n
def mapO (M:List FE):Obj:=Yo ((M.map FE.L).map fun p=>(kvI p.1,pvO p.2))
def Zqa (b:Nat) (f:Int×Int):Itm:=⟨.optr b 2 0 0,true,2,[[.val (.int .u8 f.1),aint f.2]],some (191,2)⟩
theorem find_e (o:Int):∀ M:List FE,
  (aget (M.map FE.L) o = none∧aget (M.map FE.F) o = none∧(∀ v,aset (M.map FE.F) o v = M.map FE.F++[(o,v)])∧∀ b,aset (M.map FE.L) o b = M.map FE.L++[(o,b)]) ∨
  ∃ j e,M[j]? = some e∧aget (M.map FE.L) o = some (some e.blk)∧aget (M.map FE.F) o = some e.f∧∀ v,aset (M.map FE.F) o v = (M.set j { e with f:=v }).map FE.F
 | []=>.inl ⟨rfl,rfl,fun _=>rfl,fun _=>rfl⟩
 | e :: M=>by
  by_cases h:o = e.key
  ·refine .inr ⟨0,e,rfl,?_,?_,fun v=>?_⟩
   ·simp only [List.map_cons,FE.L,aget,h,if_true]
   ·simp only [List.map_cons,FE.F,aget,h,if_true]
   ·simp only [List.map_cons,FE.F,aset,h,if_true,List.set_cons_zero]
  ·rcases find_e o M with ⟨h1,h2,h3,h4⟩ | ⟨j,e',h1,h2,h3,h4⟩
   ·refine .inl ⟨?_,?_,fun v=>?_,fun b=>?_⟩
    ·simp only [List.map_cons,FE.L,aget,h,if_false] at h1 ⊢; exact h1
    ·simp only [List.map_cons,FE.F,aget,h,if_false] at h2 ⊢; exact h2
    ·have:=h3 v; simp only [List.map_cons,FE.F,aset,h,if_false] at this ⊢; rw [this]; rfl
    ·have:=h4 b; simp only [List.map_cons,FE.L,aset,h,if_false] at this ⊢; rw [this]; rfl
   ·refine .inr ⟨j+1,e',by simpa using h1,?_,?_,fun v=>?_⟩
    ·simp only [List.map_cons,FE.L,aget,h,if_false] at h2 ⊢; exact h2
    ·simp only [List.map_cons,FE.F,aget,h,if_false] at h3 ⊢; exact h3
    ·have:=h4 v; simp only [List.map_cons,FE.F,aset,h,if_false,List.set_cons_succ] at this ⊢; rw [this]
def Sub (a b:List Itm):Prop:=∀ (k:Nat) it,a[k]? = some it→b[k]? = some it
theorem Sub.refl (a:List Itm):Sub a a:=fun _ _ h=>h
theorem Sub.app {a b:List Itm} (h:Sub a b) (c:List Itm):Sub a (b++c):=fun k it q=>by
 have:=h k it q
 rw [List.getElem?_append_left (List.getElem?_eq_some_iff.1 this).1]; exact this
theorem Sub.set {a b:List Itm} (h:Sub a b) {p:Nat} (hp:a.length≤p) (v:Itm):Sub a (b.set p v):=fun k it q=>by
 have h1:=h k it q
 have h2:=(List.getElem?_eq_some_iff.1 q).1
 rw [List.getElem?_set_ne (by omega)]; exact h1
def tVar (bt:Nat) (t:List Za):Itm:=⟨.optr bt 1 0 0,true,1,[[.isl 4 (t.map Za.enc)]],some (51,1)⟩
def oSl (xo:AV) (out:List Za):Itm:=⟨xo,false,4,out.map Za.enc,some (103,0)⟩
def oVar (bo:Nat) (xo:AV):Itm:=⟨.optr bo 1 0 0,true,1,[[xo]],some (51,1)⟩
structure LInv (bt bo:Nat) (xo:AV) (t out:List Za) (M:List FE) (its:List Itm):Prop where
 h0:its[0]? = some (tVar bt t)
 h1:its[1]? = some (oSl xo out)
 h2:its[2]? = some (oVar bo xo)
 hM:∀ (j:Nat) e,M[j]? = some e→3≤e.pos∧its[e.pos]? = some (Zqa e.blk e.f)
 hd:∀ (j j':Nat) e e',M[j]? = some e→M[j']? = some e'→e.pos = e'.pos→j = j'
section
variable {bt bo:Nat} {xo:AV} {t out:List Za} {M:List FE} {its:List Itm}
theorem LInv.grow (h:LInv bt bo xo t out M its) {its2:List Itm} (hs:Sub its its2):LInv bt bo xo t out M its2:=
 ⟨hs _ _ h.h0,hs _ _ h.h1,hs _ _ h.h2,fun j e q=>⟨(h.hM j e q).1,hs _ _ (h.hM j e q).2⟩,h.hd⟩
theorem LInv.set1 (h:LInv bt bo xo t out M its) (out':List Za):LInv bt bo xo t out' M (its.set 1 (oSl xo out')):=by
 have:=(List.getElem?_eq_some_iff.1 h.h1).1
 exact ⟨by rw [List.getElem?_set_ne (by omega)]; exact h.h0,List.getElem?_set_self this,by rw [List.getElem?_set_ne (by omega)]; exact h.h2,
  fun j e q=>by have:=h.hM j e q; exact ⟨this.1,by rw [List.getElem?_set_ne (by omega)]; exact this.2⟩,h.hd⟩
theorem LInv.new (h:LInv bt bo xo t out M its) {o:Int} {b p:Nat} {f:Int×Int} (hp:its[p]? = some (Zqa b f)) (h3:3≤p) (hn:∀ (j:Nat) e,M[j]? = some e→e.pos≠p) :
  LInv bt bo xo t out (M++[⟨o,b,p,f⟩]) its:=by
 have at_:∀ (j:Nat) e,(M++[(⟨o,b,p,f⟩:FE)])[j]? = some e→M[j]? = some e∨(j = M.length∧e = ⟨o,b,p,f⟩):=by
  intro j e q
  rw [List.getElem?_append] at q
  split at q
  ·exact .inl q
  ·rename_i hl
   have:j - M.length = 0:=by
    have:=(List.getElem?_eq_some_iff.1 q).1
    simp at this; omega
   rw [this] at q
   simp at q
   exact .inr ⟨by omega,q.symm⟩
 refine ⟨h.h0,h.h1,h.h2,fun j e q=>?_,fun j j' e e' q q' hq=>?_⟩
 ·rcases at_ j e q with q | ⟨_,rfl⟩
  ·exact h.hM j e q
  ·exact ⟨h3,hp⟩
 ·rcases at_ j e q with q | ⟨r1,rfl⟩ <;> rcases at_ j' e' q' with q' | ⟨r2,rfl⟩
  ·exact h.hd j j' e e' q q' hq
  ·exact absurd hq (hn j e q)
  ·exact absurd hq.symm (hn j' e' q')
  ·rw [r1,r2]
theorem LInv.put (h:LInv bt bo xo t out M its) {j:Nat} {e:FE} (he:M[j]? = some e) {pi pf:Nat} (hi:3≤pi) (hf:3≤pf) (hni:∀ (j:Nat) e,M[j]? = some e→e.pos≠pi) (hnf:∀ (j:Nat) e,M[j]? = some e→e.pos≠pf)
  (xo':AV) (out':List Za) (u v:Itm) (f':Int×Int) :
  LInv bt bo xo' t out' (M.set j { e with f:=f' }) ((([0,1,2,pi,pf,e.pos].zip [tVar bt t,oSl xo' out',oVar bo xo',u,v,Zqa e.blk f']).foldl (fun a p=>a.set p.1 p.2) its)):=by
 have hp:=(h.hM j e he).1
 have l0:=(List.getElem?_eq_some_iff.1 h.h2).1
 have lp:=(List.getElem?_eq_some_iff.1 (h.hM j e he).2).1
 have at_:∀ (k:Nat) e',(M.set j { e with f:=f' })[k]? = some e'→(k = j∧e' = { e with f:=f' })∨(k≠j∧M[k]? = some e'):=by
  intro k e' q
  rw [List.getElem?_set] at q
  split at q
  ·split at q
   ·cases q; exact .inl ⟨by omega,rfl⟩
   ·cases q
  ·exact .inr ⟨by omega,q⟩
 simp only [List.zip_cons_cons,List.zip_nil_left,List.foldl_cons,List.foldl_nil]
 refine ⟨?_,?_,?_,fun k e' q=>?_,fun k k' e1 e2 q1 q2 hq=>?_⟩
 ·rw [List.getElem?_set_ne (by omega),List.getElem?_set_ne (by omega),List.getElem?_set_ne (by omega),List.getElem?_set_ne (by omega),List.getElem?_set_ne (by omega),List.getElem?_set_self (by omega)]
 ·rw [List.getElem?_set_ne (by omega),List.getElem?_set_ne (by omega),List.getElem?_set_ne (by omega),List.getElem?_set_ne (by omega),List.getElem?_set_self (by simp; omega)]
 ·rw [List.getElem?_set_ne (by omega),List.getElem?_set_ne (by omega),List.getElem?_set_ne (by omega),List.getElem?_set_self (by simp; omega)]
 ·rcases at_ k e' q with ⟨rfl,rfl⟩ | ⟨hk,q⟩
  ·exact ⟨hp,List.getElem?_set_self (by simp; omega)⟩
  ·have h1:=h.hM k e' q
   have h2:=hni k e' q
   have h3:=hnf k e' q
   have h4:e.pos≠e'.pos:=fun hq=>hk (h.hd j k e e' he q hq).symm
   refine ⟨h1.1,?_⟩
   rw [List.getElem?_set_ne h4,List.getElem?_set_ne (by omega),List.getElem?_set_ne (by omega),List.getElem?_set_ne (by omega),List.getElem?_set_ne (by omega),List.getElem?_set_ne (by omega)]
   exact h1.2
 ·rcases at_ k e1 q1 with ⟨g1,rfl⟩ | ⟨hk,q3⟩ <;> rcases at_ k' e2 q2 with ⟨g2,rfl⟩ | ⟨hk',q4⟩
  ·omega
  ·rw [g1]; exact h.hd _ _ e e2 he q4 hq
  ·rw [g2]; exact h.hd _ _ e1 e q3 he hq
  ·exact h.hd _ _ e1 e2 q3 q4 hq
end
structure NInv (t:List Za) (ow:List Int) (i:Int) (out:List Za) (M:List FE):Prop where
 hi:0≤i∧i.toNat≤t.length
 hl:out.length = t.length
 hd:out.drop i.toNat = t.drop i.toNat
 hs:sqL t ow 0 [] = (out.take i.toNat++(sqL (t.drop i.toNat) (ow.drop i.toNat) i (M.map FE.F)).1,(sqL (t.drop i.toNat) (ow.drop i.toNat) i (M.map FE.F)).2)
 hf:∀ (j:Nat) e,M[j]? = some e→e.f.1 = 32→0≤e.f.2∧e.f.2 < i
 hn:∀ (j j':Nat) e e',M[j]? = some e→M[j']? = some e'→e.f.1 = 32→e'.f.1 = 32→e.f.2 = e'.f.2→j = j'
 hz:∀ x∈out,x.Text.size≤1000000000
theorem NInv.begin (t:List Za) (ow:List Int) (hz:∀ x∈t,x.Text.size≤1000000000):NInv t ow 0 t []:=
 ⟨⟨Int.le_refl _,Nat.zero_le _⟩,rfl,rfl,rfl,fun j e h=>by simp at h,fun j j' e e' h=>by simp at h,hz⟩
theorem Vna:∀ (s:List Int) (b:Int),(sqT s b).1.length≤s.length
 | [],b=>Nat.le_refl _
 | c :: cs,b=>by
  have h1:=Vna cs b
  have h2:=Vna cs 32
  have h3:=Vna cs c
  simp only [sqT]
  split
  ·split <;> simp <;> omega
  ·simp; omega
theorem ofB_size (l:List Int):(Yg l).size = l.length:=by simp [Yg,ByteArray.size]
theorem sqN_le (x:Za) (i:Int) (f:Int×Int):(sqN x i f).1.Text.size≤x.Text.size:=by
 have:=Vna (Zd x.Text) f.1
 rw [Zt] at this
 show (Yg (sqT (Zd x.Text) f.1).1).size≤_
 rw [ofB_size]; exact this
section
variable {t:List Za} {ow:List Int} {i:Int} {out:List Za} {M:List FE}
theorem dropAt {α:Type} {l:List α} {k:Nat} {v:α} (hv:l[k]? = some v):l.drop k = v :: l.drop (k+1):=by
 have:=List.getElem?_eq_some_iff.1 hv
 rw [List.drop_eq_getElem_cons this.1,this.2]
theorem NInv.at_ (h:NInv t ow i out M) {x:Za} (hx:t[i.toNat]? = some x):out[i.toNat]? = some x:=by
 have:=congrArg (fun l=>l[0]?) h.hd
 simpa [List.getElem?_drop,hx] using this
theorem NInv.skip (h:NInv t ow i out M) {x:Za} {o:Int} (hx:t[i.toNat]? = some x) (ho:ow[i.toNat]? = some o) (hk:x.Kind≠46):NInv t ow (i+1) out M:=by
 have h0:=h.hi
 have e:(i+1).toNat = i.toNat+1:=by omega
 have hl:=(List.getElem?_eq_some_iff.1 hx).1
 refine ⟨⟨by omega,by omega⟩,h.hl,?_,?_,fun j e q r=>?_,h.hn,h.hz⟩
 ·rw [e,← List.drop_drop,h.hd,List.drop_drop]
 ·rw [h.hs,dropAt hx,dropAt ho,e,List.take_add_one,h.at_ hx]
  simp only [sqL,hk,if_false,Option.toList_some,List.append_assoc,List.singleton_append]
 ·have:=h.hf j e q r; omega
theorem NInv.put (h:NInv t ow i out M) {x:Za} {o:Int} (hx:t[i.toNat]? = some x) (ho:ow[i.toNat]? = some o) (hk:x.Kind = 46) {j:Nat} {e:FE} {M':List FE}
  (hj:M'[j]? = some e) (hm:∀ (k:Nat) e',M'[k]? = some e'→k≠j→M[k]? = some e') (hj':M[j]? = some e∨e.f = (0,0))
  (hg:(aget (M.map FE.F) o).getD (0,0) = e.f) (ha:∀ v,aset (M.map FE.F) o v = (M'.set j { e with f:=v }).map FE.F) :
  NInv t ow (i+1) (out.set i.toNat (sqN x i e.f).1) (M'.set j { e with f:=(sqN x i e.f).2 }):=by
 have h0:=h.hi
 have ei:(i+1).toNat = i.toNat+1:=by omega
 have hl:=(List.getElem?_eq_some_iff.1 hx).1
 have hlo:=h.hl
 have hf2:(sqN x i e.f).2 = e.f∨(sqN x i e.f).2.2 = i:=by
  simp only [sqN]; split
  ·exact .inl rfl
  ·exact .inr rfl
 have at_:∀ (k:Nat) e',(M'.set j { e with f:=(sqN x i e.f).2 })[k]? = some e'→(k = j∧e' = { e with f:=(sqN x i e.f).2 })∨(k≠j∧M[k]? = some e'):=by
  intro k e' q
  rw [List.getElem?_set] at q
  split at q
  ·split at q
   ·cases q; exact .inl ⟨by omega,rfl⟩
   ·cases q
  ·exact .inr ⟨by omega,hm k e' q (by omega)⟩
 refine ⟨⟨by omega,by omega⟩,by simpa using hlo,?_,?_,fun k e' q r=>?_,fun k k' e1 e2 q1 q2 r1 r2 hq=>?_,fun y hy=>?_⟩
 ·rw [ei,List.drop_set_of_lt (by omega),← List.drop_drop,h.hd,List.drop_drop]
 ·rw [h.hs,dropAt hx,dropAt ho,ei,List.take_add_one,List.getElem?_set_self (by omega),List.take_set_of_le (Nat.le_refl _)]
  simp only [sqL,hk,if_true,hg,ha,Option.toList_some,List.append_assoc,List.singleton_append]
 ·rcases at_ k e' q with ⟨_,rfl⟩ | ⟨_,q⟩
  ·dsimp only at r ⊢
   rcases hf2 with w | w
   ·rw [w] at r ⊢
    rcases hj' with w2 | w2
    ·have:=h.hf j e w2 r; omega
    ·rw [w2] at r; simp at r
   ·rw [w]; omega
  ·have:=h.hf k e' q r; omega
 ·have new:∀ (k:Nat) e1,M[k]? = some e1→k≠j→e1.f.1 = 32→(sqN x i e.f).2.1 = 32→e1.f.2 = (sqN x i e.f).2.2→False:=by
   intro k e1 q1 hk r1 r2 hq
   rcases hf2 with w | w
   ·rw [w] at r2 hq
    rcases hj' with w2 | w2
    ·exact hk (h.hn k j e1 e q1 w2 r1 r2 hq)
    ·rw [w2] at r2; simp at r2
   ·have:=h.hf k e1 q1 r1
    rw [w] at hq; omega
  rcases at_ k e1 q1 with ⟨g1,rfl⟩ | ⟨hk,q3⟩ <;> rcases at_ k' e2 q2 with ⟨g2,rfl⟩ | ⟨hk',q4⟩
  ·omega
  ·exact (new k' e2 q4 hk' r2 r1 hq.symm).elim
  ·exact (new k e1 q3 hk r1 r2 hq).elim
  ·exact h.hn _ _ e1 e2 q3 q4 r1 r2 hq
 ·rcases List.mem_or_eq_of_mem_set hy with hy | rfl
  ·exact h.hz y hy
  ·exact Nat.le_trans (sqN_le x i e.f) (h.hz x (List.mem_of_getElem? (h.at_ hx)))
end
theorem nodup6 {a b c:Nat} (ha:3≤a) (hb:3≤b) (hc:3≤c) (h1:a≠b) (h2:a≠c) (h3:b≠c):[0,1,2,a,b,c].Nodup:=by
 simp only [List.nodup_cons,List.mem_cons,List.not_mem_nil,not_or,or_false,not_false_eq_true,List.nodup_nil,and_true]
 omega
theorem W6 {its:List Itm} {k:Nat} {it:Itm} (h:its[k]? = some it):its.getD k dead = it:=by rw [List.getD_eq_getElem?_getD,h]; rfl
theorem mapO_set {M:List FE} {j:Nat} {e:FE} (h:M[j]? = some e) (f:Int×Int):mapO (M.set j { e with f:=f }) = mapO M:=by
 have:(M.set j { e with f:=f }).map FE.L = M.map FE.L:=by
  apply List.ext_getElem?
  intro k
  simp only [List.getElem?_map,List.getElem?_set]
  split
  ·rename_i hk; subst hk
   rw [h]
   have:=(List.getElem?_eq_some_iff.1 h).1
   simp [this,FE.L]
  ·rfl
 simp only [mapO,this]
theorem nodes_ok {bt bo m:Nat} {xo:AV} {t:List Za} {ow:List Int} {h0 h:Hp} {its:List Itm} (I:LInv bt bo xo t t [] its) (hD:Xf h0 [(m,mapO [])]) (H:AM.Own (h0.addR [(m,mapO [])]) h its)
  (hlen:ow.length = t.length) (hsz:t.length≤1000000000∧∀ x∈t,x.Text.size≤1000000000) {tm:List AV} (hL:Like tm (((((((List.replicate 117 none).set 1 (some (.optr bt 1 0 0))).set 3 (some (.optr bo 1 0 0))).set 4 (some (.val (.map (some m))))).set 5 (some (.isl 1 (ow.map Yd)))).set 21 (some (aint t.length))).set 22 (some (aint 0)))) {Q:AX→St→Prop}
  (hQ:∀ xo' out M its' tm' h',NInv t ow t.length out M→LInv bt bo xo' t out M its'→Xf h0 [(m,mapO M)]→AM.Own (h0.addR [(m,mapO M)]) h' its'→Like tm' (((List.replicate 117 none).set 3 (some (.optr bo 1 0 0))).set 4 (some (.val (.map (some m)))))→Q .norm ⟨tm',h'⟩) :
  awp Tryz.prog tab Js Q ⟨tm,h⟩:=by
 obtain ⟨D,rfl⟩:=hL.fill 0
 try simp -implicitDefEqProofs (disch:=omega) only [push_cast,seval,Js]
 refine Vn (σ:=(Int×List Za×List FE×List Itm×AV)×Hp)
  (fun ⟨⟨i,out,M,its,xo⟩,h⟩=>⟨(((((((List.replicate 117 AV.any).set 1 (.optr bt 1 0 0)).set 3 (.optr bo 1 0 0)).set 4 (.val (.map (some m)))).set 5 (.isl 1 (ow.map Yd))).set 21 (aint t.length)).set 22 (aint i)),h⟩)
  (fun ⟨⟨i,out,M,its,xo⟩,h⟩=>NInv t ow i out M∧LInv bt bo xo t out M its∧Xf h0 [(m,mapO M)]∧AM.Own (h0.addR [(m,mapO M)]) h its)
  (fun ⟨⟨i,out,M,its,xo⟩,h⟩=>t.length - i.toNat) ⟨(0,t,[],its,xo),h⟩ (rtw) ⟨NInv.begin t ow hsz.2,I,hD,H⟩ ?_
 clear I hD H hL
 rintro ⟨⟨i,out,M,its,xo⟩,h⟩ ⟨hN0,I,hD,H⟩ N hN
 dsimp only at hN0 I hD H ⊢
 have hi:=hN0.hi
 refine sg0 ?_
 refine fkc (fun c1=>?_) fun c1=>?_
 ·obtain ⟨x,hx⟩:∃ x,t[i.toNat]? = some x:=⟨_,List.getElem?_eq_getElem (by omega)⟩
  obtain ⟨o,ho⟩:∃ o,ow[i.toNat]? = some o:=⟨_,List.getElem?_eq_getElem (by omega)⟩
  have hi':=eq_true hi.1
  have hk1:IntKind.i64.wrap (i+1) = i+1:=wrap_i64 _ (by omega)
  have ei:(i+1).toNat = i.toNat+1:=by omega
  have l3:=(List.getElem?_eq_some_iff.1 I.h2).1
  refine sg (eq_true c1) ?_
  refine H.newR [aint 0] rfl (fun b1 h1 H=>?_)
  have g1:(its++[(⟨.optr b1 1 0 0,true,1,[[aint 0]],some (3,1)⟩:Itm)])[its.length]? = some ⟨.optr b1 1 0 0,true,1,[[aint 0]],some (3,1)⟩:=by simp
  refine sg (H.p _ g1) ?_
  refine H.stP _ [aint i] g1 rfl rfl rfl (Nat.le_of_ble_eq_true rfl) rfl (fun h2 H=>?_)
  have S1:=((Sub.refl its).app [(⟨.optr b1 1 0 0,true,1,[[aint 0]],some (3,1)⟩:Itm)]).set (Nat.le_refl its.length) ⟨.optr b1 1 0 0,true,1,[[aint i]],some (3,1)⟩
  have g2:=Z0a (⟨.optr b1 1 0 0,true,1,[[aint i]],some (3,1)⟩:Itm) g1
  have l1:((its++[(⟨.optr b1 1 0 0,true,1,[[aint 0]],some (3,1)⟩:Itm)]).set its.length ⟨.optr b1 1 0 0,true,1,[[aint i]],some (3,1)⟩).length = its.length+1:=by simp
  generalize (its++[(⟨.optr b1 1 0 0,true,1,[[aint 0]],some (3,1)⟩:Itm)]).set its.length ⟨.optr b1 1 0 0,true,1,[[aint i]],some (3,1)⟩ = its1 at H S1 g2 l1
  have I1:=I.grow S1
  have p0:=H.p _ I1.h0
  have p2:=H.p _ I1.h2
  have p3:=H.p _ g2
  refine sg (ai hi' (ai hx (ai p0 (ai p2 p3)))) ?_
  refine fkc (fun c2=>?_) fun c2=>?_
  ·refine sg hk1 ?_
   exact hN ⟨(i+1,out,M,its1,xo),h2⟩ _ (by show t.length - (i+1).toNat < t.length - i.toNat; omega) ⟨hN0.skip hx ho c2,I1,hD,H⟩ (rtw)
  ·refine sg (ai hi' (ai ho (ai hx (ai p0 (ai p2 p3))))) ?_
   refine look_of (kv:=kvI) (vv:=pvO) (keyInt .i64) (fun v=>.val (pvO v)) (fun v=>by cases v <;> rfl) none rfl tab_185 tab_3 tab_187 H hD 0 (M.map FE.L) o rfl (by rfl) ?_
   have hk46:x.Kind = 46:=by omega
   have fin:∀ {its2:List Itm} {M':List FE} {j:Nat} {e:FE} {pf:Nat} {u v:Itm} (xo':AV) (h':Hp) (s'':St),LInv bt bo xo t out M' its2→M'[j]? = some e→its.length < pf →
     (∀ (k:Nat) e',M'[k]? = some e'→e'.pos≠its.length∧e'.pos≠pf)→Xf h0 [(m,mapO M')] →
     (∀ (k:Nat) e',M'[k]? = some e'→k≠j→M[k]? = some e')→(M[j]? = some e∨e.f = (0,0))→(aget (M.map FE.F) o).getD (0,0) = e.f→(∀ v,aset (M.map FE.F) o v = (M'.set j { e with f:=v }).map FE.F) →
     AM.Own (h0.addR [(m,mapO M')]) h' (([0,1,2,its.length,pf,e.pos].zip [tVar bt t,oSl xo' (out.set i.toNat (sqN x i e.f).1),oVar bo xo',u,v,Zqa e.blk (sqN x i e.f).2]).foldl (fun a p=>a.set p.1 p.2) its2) →
     Xg s'' ⟨(((((((List.replicate 117 AV.any).set 1 (.optr bt 1 0 0)).set 3 (.optr bo 1 0 0)).set 4 (.val (.map (some m)))).set 5 (.isl 1 (ow.map Yd))).set 21 (aint t.length)).set 22 (aint (i+1))),h'⟩→N s'':=by
    intro its2 M' j e pf u v xo' h' s'' I2 hj hpf hne hD2 hm hj' hg ha H2 hR
    refine hN ⟨(i+1,out.set i.toNat (sqN x i e.f).1,M'.set j { e with f:=(sqN x i e.f).2 },_,xo'),h'⟩ s'' (by show t.length - (i+1).toNat < t.length - i.toNat; omega)
     ⟨hN0.put hx ho hk46 hj hm hj' hg ha,I2.put hj (by omega) (by omega) (fun k e' q=>(hne k e' q).1) (fun k e' q=>(hne k e' q).2) xo' _ u v _,?_,?_⟩ hR
    ·rw [mapO_set hj]; exact hD2
    ·rw [mapO_set hj]; exact H2
   have hxo:=hN0.at_ hx
   have hts:=hsz.2 x (List.mem_of_getElem? hx)
   have pos_lt:∀ (k:Nat) e',M[k]? = some e'→e'.pos < its.length:=fun k e' q=>(List.getElem?_eq_some_iff.1 (I.hM k e' q).2).1
   rcases find_e o M with ⟨f1,f2,f3,f4⟩ | ⟨j,e,f1,f2,f3,f4⟩
   ·rw [f1]
    try simp -implicitDefEqProofs (disch:=omega) only [push_cast,seval,Option.getD_none,pvO]
    refine H.newR [.val (.pointer none)] rfl (fun b2 h3 H=>?_)
    have g3:(its1++[(⟨.optr b2 1 0 0,true,1,[[.val (.pointer none)]],some (187,1)⟩:Itm)])[its.length+1]? = some ⟨.optr b2 1 0 0,true,1,[[.val (.pointer none)]],some (187,1)⟩:=by rw [← l1]; simp
    refine sg (H.p _ g3) ?_
    refine H.stP _ [.val (.pointer none)] g3 rfl rfl rfl (Nat.le_of_ble_eq_true rfl) rfl (fun h4 H=>?_)
    have S2:Sub its1 ((its1++[(⟨.optr b2 1 0 0,true,1,[[.val (.pointer none)]],some (187,1)⟩:Itm)]).set (its.length+1) ⟨.optr b2 1 0 0,true,1,[[.val (.pointer none)]],some (187,1)⟩):=((Sub.refl its1).app _).set (by omega) _
    have g4:=Z0a (⟨.optr b2 1 0 0,true,1,[[.val (.pointer none)]],some (187,1)⟩:Itm) g3
    have l2:((its1++[(⟨.optr b2 1 0 0,true,1,[[.val (.pointer none)]],some (187,1)⟩:Itm)]).set (its.length+1) ⟨.optr b2 1 0 0,true,1,[[.val (.pointer none)]],some (187,1)⟩).length = its.length+2:=by simp [l1]
    generalize (its1++[(⟨.optr b2 1 0 0,true,1,[[.val (.pointer none)]],some (187,1)⟩:Itm)]).set (its.length+1) ⟨.optr b2 1 0 0,true,1,[[.val (.pointer none)]],some (187,1)⟩ = its2 at H S2 g4 l2
    have I2:=I1.grow S2
    refine sg (H.p _ g4) ?_
    refine H.newR [.val (.int .u8 0),aint 0] rfl (fun b3 h5 H=>?_)
    have g5:(its2++[Zqa b3 (0,0)])[its.length+2]? = some (Zqa b3 (0,0)):=by rw [← l2]; simp
    have g6:(its2++[Zqa b3 (0,0)])[its.length+1]? = _:=((Sub.refl its2).app [Zqa b3 (0,0)]) _ _ g4
    replace H:AM.Own _ h5 (its2++[Zqa b3 (0,0)]):=H
    have S3:=(Sub.refl its2).app [Zqa b3 (0,0)]
    generalize its2++[Zqa b3 (0,0)] = its3 at H g5 g6 S3
    refine sg (H.p _ g6) ?_
    refine H.stP _ [.optr b3 2 0 0] g6 rfl rfl rfl (Nat.le_of_ble_eq_true rfl) rfl (fun h6 H=>?_)
    have I3:=(I1.grow S2).grow S3
    have S4:Sub its1 (its3.set (its.length+1) ⟨.optr b2 1 0 0,true,1,[[.optr b3 2 0 0]],some (187,1)⟩):=Sub.set (fun k it q=>S3 _ _ (S2 _ _ q)) (by omega) _
    have I4:=I1.grow S4
    have g7:=Z0a (⟨.optr b2 1 0 0,true,1,[[.optr b3 2 0 0]],some (187,1)⟩:Itm) g6
    have g8:(its3.set (its.length+1) ⟨.optr b2 1 0 0,true,1,[[.optr b3 2 0 0]],some (187,1)⟩)[its.length+2]? = some (Zqa b3 (0,0)):=by rw [List.getElem?_set_ne (by omega)]; exact g5
    generalize its3.set (its.length+1) ⟨.optr b2 1 0 0,true,1,[[.optr b3 2 0 0]],some (187,1)⟩ = its4 at H S4 I4 g7 g8
    have g9:=S4 _ _ g2
    have I5:=I4.new (o:=o) g8 (by omega) (fun k e' q=>by have:=pos_lt k e' q; omega)
    refine sg (ai hi' (ai ho (ai (H.p _ g7) (H.p _ g9)))) ?_
    refine upd_of' (kv:=kvI) (vv:=pvO) (keyInt .i64) tab_185 tab_3 H hD 0 (M.map FE.L) o (some b3) rfl (by rfl) (by rfl) (fun h7 hD H=>?_)
    have eM:Yo ((aset (M.map FE.L) o (some b3)).map fun p=>(kvI p.1,pvO p.2)) = mapO (M++[⟨o,b3,its.length+2,(0,0)⟩]):=by rw [f4,mapO,List.map_append (f:=FE.L)]; rfl
    replace hD:Xf h0 [(m,mapO (M++[⟨o,b3,its.length+2,(0,0)⟩]))]:=by rw [← eM]; exact hD
    replace H:AM.Own (h0.addR [(m,mapO (M++[⟨o,b3,its.length+2,(0,0)⟩]))]) h7 its4:=by rw [← eM]; exact H
    refine sg0 ?_
    have gM:(M++[(⟨o,b3,its.length+2,(0,0)⟩:FE)])[M.length]? = some ⟨o,b3,its.length+2,(0,0)⟩:=by simp
    have at_:∀ (k:Nat) e',(M++[(⟨o,b3,its.length+2,(0,0)⟩:FE)])[k]? = some e'→M[k]? = some e'∨(k = M.length∧e' = ⟨o,b3,its.length+2,(0,0)⟩):=by
     intro k e' q
     rw [List.getElem?_append] at q
     split at q
     ·exact .inl q
     ·rename_i hl
      have:k - M.length = 0:=by
       have:=(List.getElem?_eq_some_iff.1 q).1
       simp at this; omega
      rw [this] at q
      simp at q
      exact .inr ⟨by omega,q.symm⟩
    obtain ⟨h8,HF,hB,-⟩:=H.frameS [0,1,2,its.length,its.length+1,its.length+2] (nodup6 (by omega) (by omega) (by omega) (by omega) (by omega) (by omega))
    refine text_ok (pv:=.optr b3 2 0 0) (f:=(0,0)) (.inl rfl) (HF.eq (by simp only [List.map_cons,List.map_nil,W6 I4.h0,W6 I4.h1,W6 I4.h2,W6 g9,W6 g7,W6 g8]; rfl)) hi.1 hx hxo hts lkt (fun xo' tm' h' H' hL'=>?_)
    obtain ⟨D,rfl⟩:=hL'.fill 0
    refine sg hk1 ?_
    refine fin xo' h' _ I5 gM (by omega) (fun k e' q=>?_) hD (fun k e' q hk=>?_) (.inr rfl) (by rw [f2]; rfl) (fun v=>?_) (hB _ _ rfl H') (rtw)
    ·rcases at_ k e' q with q | ⟨_,rfl⟩
     ·have:=pos_lt k e' q; omega
     ·dsimp only; omega
    ·rcases at_ k e' q with q | ⟨h,_⟩
     ·exact q
     ·exact absurd h hk
    ·rw [f3,List.set_append_right _ _ (Nat.le_refl _),List.map_append]
     simp [FE.F]
   ·rw [f2]
    try simp -implicitDefEqProofs (disch:=omega) only [push_cast,seval,Option.getD_some,pvO]
    refine H.newR [.val (.pointer none)] rfl (fun b2 h3 H=>?_)
    have g3:(its1++[(⟨.optr b2 1 0 0,true,1,[[.val (.pointer none)]],some (187,1)⟩:Itm)])[its.length+1]? = some ⟨.optr b2 1 0 0,true,1,[[.val (.pointer none)]],some (187,1)⟩:=by rw [← l1]; simp
    refine sg (H.p _ g3) ?_
    refine H.stP _ [.val (.pointer (some ⟨e.blk,0,none⟩))] g3 rfl rfl rfl (Nat.le_of_ble_eq_true rfl) rfl (fun h4 H=>?_)
    have S2:Sub its1 ((its1++[(⟨.optr b2 1 0 0,true,1,[[.val (.pointer none)]],some (187,1)⟩:Itm)]).set (its.length+1) ⟨.optr b2 1 0 0,true,1,[[.val (.pointer (some ⟨e.blk,0,none⟩))]],some (187,1)⟩):=((Sub.refl its1).app _).set (by omega) _
    have g4:=Z0a (⟨.optr b2 1 0 0,true,1,[[.val (.pointer (some ⟨e.blk,0,none⟩))]],some (187,1)⟩:Itm) g3
    have l2:((its1++[(⟨.optr b2 1 0 0,true,1,[[.val (.pointer none)]],some (187,1)⟩:Itm)]).set (its.length+1) ⟨.optr b2 1 0 0,true,1,[[.val (.pointer (some ⟨e.blk,0,none⟩))]],some (187,1)⟩).length = its.length+2:=by simp [l1]
    generalize (its1++[(⟨.optr b2 1 0 0,true,1,[[.val (.pointer none)]],some (187,1)⟩:Itm)]).set (its.length+1) ⟨.optr b2 1 0 0,true,1,[[.val (.pointer (some ⟨e.blk,0,none⟩))]],some (187,1)⟩ = its2 at H S2 g4 l2
    have I2:=I1.grow S2
    refine sg (H.p _ g4) ?_
    have g5:=S2 _ _ g2
    have g6:=(I2.hM j e f1).2
    have hpl:=pos_lt j e f1
    have hp3:=(I2.hM j e f1).1
    obtain ⟨h5,HF,hB,-⟩:=H.frameS [0,1,2,its.length,its.length+1,e.pos] (nodup6 (by omega) (by omega) hp3 (by omega) (by omega) (by omega))
    refine text_ok (pv:=.val (.pointer (some ⟨e.blk,0,none⟩))) (.inr rfl) (HF.eq (by simp only [List.map_cons,List.map_nil,W6 I2.h0,W6 I2.h1,W6 I2.h2,W6 g5,W6 g4,W6 g6]; rfl)) hi.1 hx hxo hts lkt (fun xo' tm' h' H' hL'=>?_)
    obtain ⟨D,rfl⟩:=hL'.fill 0
    refine sg hk1 ?_
    exact fin xo' h' _ I2 f1 (by omega) (fun k e' q=>by have:=pos_lt k e' q; omega) hD (fun k e' q _=>q) (.inl f1) (by rw [f3]; rfl) f4 (hB _ _ rfl H') (rtw)
 ·refine sg0 ?_
  obtain rfl:i = t.length:=by omega
  exact hQ _ _ _ _ _ _ hN0 I hD H lkt
theorem left_nil {n:Nat} {seen:Array Nat} (h:Y9a n seen = []):∀ i,i < n→i∈seen:=by
 intro i hi
 unfold Y9a at h
 rw [List.filter_eq_nil_iff] at h
 have:=h i (List.mem_range.2 hi)
 simpa using this
theorem left_mem' {n i:Nat} {seen:Array Nat} (h:i∈Y9a n seen):i < n∧i∉seen:=by
 unfold Y9a at h
 simp only [List.mem_filter,List.mem_range] at h
 simpa using h
def trimN (x:Za):Za:=⟨x.Kind,trimS x.Text,x.At,x.Size⟩
def hits (M:List FE) (js:List Nat) (a:Nat):Prop:=∃ j∈js,∃ e,M[j]? = some e∧e.f.1 = 32∧e.f.2 = (a:Int)
structure RInv (M:List FE) (out:List Za) (js:List Nat) (out':List Za):Prop where
 hl:out'.length = out.length
 nd:js.Nodup
 lt:∀ j∈js,j < M.length
 yes:∀ a x,out[a]? = some x→hits M js a→out'[a]? = some (trimN x)
 no:∀ a x,out[a]? = some x→¬ hits M js a→out'[a]? = some x
section
variable {M:List FE} {out out':List Za} {js:List Nat}
theorem RInv.begin (M:List FE) (out:List Za):RInv M out [] out:=
 ⟨rfl,List.nodup_nil,by simp,fun a x _ h=>by obtain ⟨j,hj,_⟩:=h; simp at hj,fun a x h _=>h⟩
theorem RInv.size (h:RInv M out js out'):js.length≤M.length:=by
 have:=h.nd.length_le_of_subset (fun x hx=>List.mem_range.2 (h.lt x hx):js ⊆ List.range M.length)
 simpa using this
theorem RInv.size_lt (h:RInv M out js out') {n:Nat} (hn:n < M.length) (hj:n∉js):js.length < M.length:=by
 have:=(List.nodup_cons.2 ⟨hj,h.nd⟩).length_le_of_subset (fun x hx=>by
  rcases List.mem_cons.1 hx with rfl | hx
  ·exact List.mem_range.2 hn
  ·exact List.mem_range.2 (h.lt x hx):n :: js ⊆ List.range M.length)
 simp only [List.length_cons,List.length_range] at this; omega
theorem nd_snoc {n:Nat} (hj:n∉js) (h:js.Nodup):(js++[n]).Nodup:=by
 refine List.nodup_append.2 ⟨h,by simp,?_⟩
 intro a ha b hb
 rw [List.mem_singleton] at hb
 subst hb
 rintro rfl
 exact hj ha
theorem RInv.skip (h:RInv M out js out') {n:Nat} {e:FE} (hn:M[n]? = some e) (hj:n∉js) (hc:e.f.1≠32):RInv M out (js++[n]) out':=by
 have hit:∀ a,hits M (js++[n]) a↔hits M js a:=fun a=>by
  constructor
  ·rintro ⟨j,hj,e',q1,q2,q3⟩
   rcases List.mem_append.1 hj with hj | hj
   ·exact ⟨j,hj,e',q1,q2,q3⟩
   ·rw [List.mem_singleton] at hj; subst hj
    rw [hn] at q1; cases q1; exact absurd q2 hc
  ·rintro ⟨j,hj,q⟩; exact ⟨j,List.mem_append_left _ hj,q⟩
 refine ⟨h.hl,nd_snoc hj h.nd,fun j q=>?_,fun a x q r=>h.yes a x q ((hit a).1 r),fun a x q r=>h.no a x q (fun w=>r ((hit a).2 w))⟩
 rcases List.mem_append.1 q with q | q
 ·exact h.lt j q
 ·rw [List.mem_singleton] at q; subst q; exact (List.getElem?_eq_some_iff.1 hn).1
theorem RInv.put (h:RInv M out js out') {n:Nat} {e:FE} (hn:M[n]? = some e) (hj:n∉js) (hc:e.f.1 = 32) (h0:0≤e.f.2) {x:Za} (hx:out'[e.f.2.toNat]? = some x)
  (hd:∀ (j j':Nat) e e',M[j]? = some e→M[j']? = some e'→e.f.1 = 32→e'.f.1 = 32→e.f.2 = e'.f.2→j = j'):RInv M out (js++[n]) (out'.set e.f.2.toNat (trimN x)):=by
 have hit:∀ a,hits M (js++[n]) a↔hits M js a∨a = e.f.2.toNat:=fun a=>by
  constructor
  ·rintro ⟨j,hj,e',q1,q2,q3⟩
   rcases List.mem_append.1 hj with hj | hj
   ·exact .inl ⟨j,hj,e',q1,q2,q3⟩
   ·rw [List.mem_singleton] at hj; subst hj
    rw [hn] at q1; cases q1; exact .inr (by omega)
  ·rintro (⟨j,hj,q⟩ | rfl)
   ·exact ⟨j,List.mem_append_left _ hj,q⟩
   ·exact ⟨n,by simp,e,hn,hc,by omega⟩
 have hnot:¬ hits M js e.f.2.toNat:=by
  rintro ⟨j,hj',e',q1,q2,q3⟩
  have:=hd j n e' e q1 hn q2 hc (by omega)
  subst this; exact hj hj'
 have hlt:=(List.getElem?_eq_some_iff.1 hx).1
 refine ⟨by simpa using h.hl,nd_snoc hj h.nd,fun j q=>?_,fun a y q r=>?_,fun a y q r=>?_⟩
 ·rcases List.mem_append.1 q with q | q
  ·exact h.lt j q
  ·rw [List.mem_singleton] at q; subst q; exact (List.getElem?_eq_some_iff.1 hn).1
 ·by_cases ha:a = e.f.2.toNat
  ·subst ha
   rw [List.getElem?_set_self hlt]
   have:=h.no _ y q hnot
   rw [hx] at this; cases this; rfl
  ·rw [List.getElem?_set_ne (by omega)]
   exact h.yes a y q (((hit a).1 r).resolve_right ha)
 ·have ha:a≠e.f.2.toNat:=fun w=>r ((hit a).2 (.inr w))
  rw [List.getElem?_set_ne (by omega)]
  exact h.no a y q (fun w=>r ((hit a).2 (.inl w)))
theorem sqEnd_get (m:Jua):∀ (l:List Za) (i:Int) (a:Nat),(Zpb m l i)[a]? = (l[a]?).map (sqFin m (i+a))
 | [],i,a=>by simp [Zpb]
 | x :: xs,i,0=>by simp [Zpb]
 | x :: xs,i,a+1=>by
  simp only [Zpb,List.getElem?_cons_succ]
  rw [sqEnd_get m xs (i+1) a]
  congr 2
  push_cast; omega
theorem RInv.done (h:RInv M out js out') (hall:∀ j,j < M.length→j∈js):out' = Zpb (M.map FE.F) out 0:=by
 have hit:∀ a:Nat,hits M js a↔(M.map FE.F).any (fun p=>decide (p.2.1 = 32) && decide (p.2.2 = (0:Int)+a)) = true:=fun a=>by
  rw [List.any_eq_true]
  constructor
  ·rintro ⟨j,_,e,q1,q2,q3⟩
   exact ⟨FE.F e,List.mem_map.2 ⟨e,List.mem_of_getElem? q1,rfl⟩,by simp [FE.F,q2,q3]⟩
  ·rintro ⟨p,hp,q⟩
   obtain ⟨e,he,rfl⟩:=List.mem_map.1 hp
   obtain ⟨j,hj⟩:=List.getElem?_of_mem he
   rw [Bool.and_eq_true] at q
   have q1:e.f.1 = 32:=of_decide_eq_true q.1
   have q2:e.f.2 = (0:Int)+a:=of_decide_eq_true q.2
   exact ⟨j,hall j (List.getElem?_eq_some_iff.1 hj).1,e,hj,q1,by omega⟩
 apply List.ext_getElem?
 intro a
 rw [sqEnd_get]
 cases e:out[a]? with
 | none=>
  have:=List.getElem?_eq_none_iff.1 e
  rw [List.getElem?_eq_none (by rw [h.hl]; exact this)]; rfl
 | some x=>
  simp only [Option.map_some,sqFin]
  by_cases hh:hits M js a
  ·rw [h.yes a x e hh,if_pos ((hit a).1 hh)]; rfl
  ·rw [h.no a x e hh,if_neg (fun w=>hh ((hit a).2 w))]
end
theorem ofB_strInts (s:ByteArray):Yg (Zd s) = s:=by
 have:∀ l:List UInt8,(l.map fun b=>((b.toNat:Nat):Int)).map (fun n=>UInt8.ofNat n.toNat) = l:=by
  intro l
  rw [List.map_map]
  conv=>rhs; rw [← List.map_id l]
  refine List.map_congr_left fun b _=>?_
  simp
 unfold Yg Zd
 rw [this]
theorem ext_ints (s:ByteArray) (a b:Nat):Zd (s.extract a b) = ((Zd s).drop a).take (b - a):=by
 unfold Zd
 rw [ByteArray.data_extract,Array.toList_extract,List.extract_eq_take_drop,List.map_take,List.map_drop]
theorem trim_w (s:ByteArray) (hs:s.size≤1000000000):Z8.w s (ByteArray.mk #[32]) (fun r=>r = trimS s):=by
 unfold Z8.w Z2.w Z4.w trimS
 have e1:(ByteArray.mk #[32]).size = 1:=rfl
 have hl:=Zt s
 rw [e1]
 by_cases c1:1≤s.size
 ·rw [if_pos (by omega)]
  have e2:((s.size:Int) - ((1:Nat):Int)).toNat = s.size - 1:=by omega
  have hne:Zd s≠[]:=by intro e; rw [e] at hl; simp at hl; omega
  have hlast:s.extract (s.size - 1) s.size = ByteArray.mk #[32]↔(Zd s).getLast? = some 32:=by
   rw [List.getLast?_eq_some_getLast hne]
   have e3:Zd (s.extract (s.size - 1) s.size) = [(Zd s).getLast hne]:=by
    rw [ext_ints,← hl,List.drop_eq_getElem_cons (by omega),List.drop_eq_nil_of_le (by omega),List.getLast_eq_getElem]
    have:(Zd s).length - ((Zd s).length - 1) = 1:=by omega
    rw [this]; rfl
   constructor
   ·intro e; rw [e] at e3
    have:Zd (ByteArray.mk #[32]) = [32]:=rfl
    rw [this] at e3
    simpa using e3.symm
   ·intro e
    refine strInts_inj ?_
    rw [e3]
    have:(Zd s).getLast hne = 32:=by simpa using e
    rw [this]; rfl
  rw [e2]
  refine ⟨by constructor <;> omega,by omega,by omega,?_⟩
  by_cases c2:s.extract (s.size - 1) s.size = ByteArray.mk #[32]
  ·rw [if_pos (hlast.1 c2)]
   dsimp only
   rw [if_pos (by simpa using c2)]
   refine ⟨by constructor <;> omega,by omega,by omega,?_⟩
   rw [← ofB_strInts (s.extract 0 (s.size - 1)),ext_ints,List.dropLast_eq_take,hl]
   simp
  ·rw [if_neg (fun q=>c2 (hlast.2 q))]
   dsimp only
   rw [if_neg (by simpa using c2)]
 ·rw [if_neg (by omega)]
  dsimp only
  rw [if_neg (by simp)]
  have:Zd s = []:=by apply List.eq_nil_of_length_eq_zero; omega
  rw [this]; rfl
theorem flows_ok {bt bo m:Nat} {xo:AV} {t out:List Za} {ow:List Int} {M:List FE} {h0 h:Hp} {its:List Itm} (hN:NInv t ow t.length out M) (I:LInv bt bo xo t out M its) (hD:Xf h0 [(m,mapO M)]) (H:AM.Own (h0.addR [(m,mapO M)]) h its)
  {tm:List AV} (hL:Like tm (((List.replicate 117 none).set 3 (some (.optr bo 1 0 0))).set 4 (some (.val (.map (some m)))))) {Q:AX→St→Prop}
  (hQ:∀ xo' rs its' tm' h',Xf h0 rs→AM.Own (h0.addR rs) h' its'→its'[1]? = some (oSl xo' (Zpb (M.map FE.F) out 0))→tm'[2]? = some xo'→Q .ret ⟨tm',h'⟩) :
  awp Tryz.prog tab Jr Q ⟨tm,h⟩:=by
 obtain ⟨D,rfl⟩:=hL.fill 0
 try simp -implicitDefEqProofs (disch:=omega) only [push_cast,seval,Jr]
 refine range_of (kv:=kvI) (vv:=pvO) tab_185 H hD 0 (M.map FE.L) rfl (fun r h1 hD H=>?_)
 refine sg0 ?_
 have hml:(M.map FE.L).length = M.length:=by simp
 refine Vn (σ:=(List Nat×List Za×List Itm×AV)×Hp)
  (fun ⟨⟨js,out',its,xo⟩,h⟩=>⟨((((List.replicate 117 AV.any).set 3 (.optr bo 1 0 0)).set 4 (.val (.map (some m)))).set 87 (.val (.pointer (some ⟨r,0,none⟩)))),h⟩)
  (fun ⟨⟨js,out',its,xo⟩,h⟩=>RInv M out js out'∧LInv bt bo xo t out' M its∧Xf h0 [(m,mapO M),(r,Vg m (M.map FE.L).length js.toArray)]∧AM.Own (h0.addR [(m,mapO M),(r,Vg m (M.map FE.L).length js.toArray)]) h its)
  (fun ⟨⟨js,out',its,xo⟩,h⟩=>M.length - js.length) ⟨([],out,its,xo),h1⟩ (rtw) ⟨RInv.begin M out,I,hD,H⟩ ?_
 clear I hD H hL
 rintro ⟨⟨js,out',its,xo⟩,h⟩ ⟨hR,I,hD,H⟩ N hN2
 dsimp only at hR I hD H ⊢
 refine sg0 ?_
 have p2:=H.p _ I.h2
 refine next_of (kv:=kvI) (vv:=pvO) (fun n=>aint n) (fun _=>rfl) (fun v=>.val (pvO v)) (fun v=>by cases v <;> rfl) H hD 0 1 (M.map FE.L) rfl rfl (fun hnil=>?_) (fun n hn p hp h2 hD H=>?_)
 ·refine sg p2 ?_
  refine hQ xo _ its _ h hD H ?_ rfl
  rw [← hR.done (fun j hj=>by simpa using left_nil hnil j (by rw [hml]; exact hj))]
  exact I.h1
 ·obtain ⟨hn1,hn2⟩:=left_mem' hn
  rw [hml] at hn1
  have hn2:n∉js:=by simpa using hn2
  have hlt:=hR.size_lt hn1 hn2
  obtain ⟨e,he,rfl⟩:∃ e,M[n]? = some e∧p = FE.L e:=by
   rw [List.getElem?_map] at hp
   cases q:M[n]? with
   | none=>rw [q] at hp; cases hp
   | some e=>rw [q] at hp; cases hp; exact ⟨e,rfl,rfl⟩
  refine sg0 ?_
  refine entry_of (kv:=kvI) (vv:=pvO) (fun n=>aint n) (fun _=>rfl) (fun v=>.val (pvO v)) (fun v=>by cases v <;> rfl) H hD 0 1 (M.map FE.L) hp rfl rfl ?_
  have p2:=H.p _ I.h2
  have pf:=H.p _ (I.hM n e he).2
  try simp -implicitDefEqProofs (disch:=omega) only [push_cast,seval,FE.L,pvO,pf]
  have ea:js.toArray.push n = (js++[n]).toArray:=by simp
  rw [ea] at hD H
  refine fkc (fun c1=>?_) fun c1=>?_
  ·have hf:=hN.hf n e he c1
   have hz:=eq_true hf.1
   have hlen:=hR.hl
   have hl2:=hN.hl
   obtain ⟨x,hx⟩:∃ x,out[e.f.2.toNat]? = some x:=⟨_,List.getElem?_eq_getElem (by omega)⟩
   obtain ⟨y,hy⟩:∃ y,out'[e.f.2.toNat]? = some y:=⟨_,List.getElem?_eq_getElem (by omega)⟩
   have hys:y.Text.size≤1000000000:=by
    have hnot:¬ hits M js e.f.2.toNat:=by
     rintro ⟨j,hj',e',q1,q2,q3⟩
     have:=hN.hn j n e' e q1 he q2 c1 (by omega)
     subst this; exact hn2 hj'
    have:=hR.no _ x hx hnot
    rw [hy] at this; cases this
    exact hN.hz _ (List.mem_of_getElem? hx)
   obtain ⟨b5,o1,rfl,qb,qc,qd,qe⟩:=H.row (k:=e.f.2.toNat) (r:=Za.enc y) 1 I.h1 (gmp hy)
   rw [List.length_map] at qe
   have qe:=eq_true qe
   rw [List.length_map] at I p2
   refine sg (ai hz (ai p2 (ai pf (ai qb (ai qc (ai qd qe)))))) ?_
   refine K4a _ (Jc (fun h=>Z8.ok (trim_w y.Text hys) h)) ?_
   refine sg (ai hz (ai p2 (ai pf (ai qb (ai qc (ai qd qe)))))) ?_
   refine H.stL 1 (trimN y) I.h1 hy rfl rfl rfl (Nat.le_of_ble_eq_true rfl) rfl (fun h3 H=>?_)
   refine sg0 ?_
   exact hN2 ⟨(js++[n],out'.set e.f.2.toNat (trimN y),its.set 1 (oSl (.osl b5 4 0 out'.length) (out'.set e.f.2.toNat (trimN y))),.osl b5 4 0 out'.length),h3⟩ _ (by show M.length - (js++[n]).length < M.length - js.length; simp; omega)
    ⟨hR.put he hn2 c1 hf.1 hy hN.hn,I.set1 _,hD,H⟩ (rtw)
  ·refine sg0 ?_
   exact hN2 ⟨(js++[n],out',its,xo),h2⟩ _ (by show M.length - (js++[n]).length < M.length - js.length; simp; omega) ⟨hR.skip he hn2 c1,I,hD,H⟩ (rtw)
end Go.Proofs.YtpkhmfedaaoalaaGreatDoor.Sq
namespace Go.Proofs.YtpkhmfedaaoalaaGreatDoor
open Go Go.Proofs.YtpkhmfedaaoalaaGreatDoor.AM Go.Proofs.YtpkhmfedaaoalaaGreatDoor.Sq
abbrev Vva:Nat:=125
def Zua.w (t:List Za) (Q:List Za→Prop):Prop:=(t.length≤1000000000∧∀ x∈t,x.Text.size≤1000000000)∧K4.w t (fun ow=>ow.length = t.length∧Q (Wg t ow))
theorem Zua.ok {t:List Za} {Q:List Za→Prop} (hm:Zua.w t Q) (h0:Hp):Zo Tryz.prog Vva [(.isl 4 (t.map Za.enc))] h0 (Back h0 (fun r=>(.isl 4 (r.map Za.enc))) Q):=by
 refine Z0b ?_
 obtain ⟨hsz,hm⟩:=hm
 have H:=AM.Own.nil h0
 try simp -implicitDefEqProofs (disch:=omega) only [push_cast,seval,W0a]
 refine H.newR [.isl 4 (t.map Za.enc)] rfl (fun b1 h1 H=>?_)
 refine sg (H.p 0 rfl) ?_
 refine H.newL (E:=Za.enc) ([]:List Za) rfl rfl (fun b2 h2 H=>?_)
 refine sg (H.p 0 rfl) ?_
 refine H.appL (E:=Za.enc) 1 t rfl rfl rfl (by decide) (by decide) (by simp; omega) (fun x1 h3 H=>?_)
 refine sg0 ?_
 refine H.newR [anil] rfl (fun b3 h4 H=>?_)
 refine sg (H.p 2 rfl) ?_
 refine H.stP 2 [x1] rfl (H.ok 1 rfl).1 (H.ok 1 rfl).2 rfl (Nat.le_of_ble_eq_true rfl) rfl (fun h5 H=>?_)
 refine sg0 ?_
 refine mk_of0 H (fun b4 h6 hD H=>?_)
 refine sg (H.p 0 rfl) ?_
 refine Zn (fun h=>K4.ok hm h) (fun ow hq=>?_)
 obtain ⟨hlen,hq⟩:=hq
 refine sg (H.p 0 rfl) ?_
 refine nodes_ok (bt:=b1) (bo:=b3) (m:=b4) (xo:=x1) (t:=t) (ow:=ow) ⟨rfl,rfl,rfl,fun j e q=>by simp at q,fun j j' e e' q=>by simp at q⟩ hD H hlen hsz lkt (fun xo' out M its' tm' h' hN I hD H hL=>?_)
 obtain ⟨D,rfl⟩:=hL.fill 0
 refine sg0 ?_
 refine flows_ok hN I hD H lkt (fun xo2 rs its2 tm2 h2 hD2 H hI h2t=>?_)
 obtain ⟨h9,s1,H⟩:=H.freeze 1 hI
 have e2:Wm tab [ResultVar.tmp 2] tm2 h2 = some xo2:=by
  simp only [Wm,Yqa,Vpa,List.getD_eq_getElem?_getD,h2t,Option.getD_some]
 refine Zb (.inl rfl) (Wg t ow) xo2 e2 (h1:=h9) ?_ (Ownr.sub ⟨hD2,H⟩) hq
 have:Zpb (M.map FE.F) out 0 = Wg t ow:=by
  have:=hN.hs
  have e:((t.length:Int)).toNat = t.length:=by omega
  rw [e] at this
  rw [List.drop_length,← hN.hl,List.take_length] at this
  simp only [sqL,List.append_nil] at this
  unfold Wg
  rw [this]
 rw [← this]
 exact s1
end Go.Proofs.YtpkhmfedaaoalaaGreatDoor
