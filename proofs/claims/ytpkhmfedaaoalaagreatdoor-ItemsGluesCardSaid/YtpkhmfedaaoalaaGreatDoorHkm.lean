/- ItemsGlues: a part of its proof (packed by a program). -/
import Derived.Test.YtpkhmfedaaoalaaGreatDoorHkb
set_option linter.all false
namespace Go.Proofs.YtpkhmfedaaoalaaGreatDoor.Fg
open Go Go.Proofs.YtpkhmfedaaoalaaGreatDoor Go.Proofs.YtpkhmfedaaoalaaGreatDoor.AM
set_option maxHeartbeats 40000000
set_option maxRecDepth 100000
theorem Kaa (t:ByteArray) (a:Nat):∀ (l:List Zj) (f:List Int),(bookF t a f l).length = f.length
 | [],f=>rfl
 | p :: l,f=>by
  show (bookF t a (if t = p.Letters then maxL f a (Zd p.Figures) else f) l).length = f.length
  rw [Kaa t a l]
  split
  ·exact maxL_length _ _ _
  ·rfl
theorem X1a (ri:Zj→Bool) (ps:List Zj) (s:ByteArray) (a:Nat) (f:List Int):∀ m,(rowF ri ps s a f m).length = f.length
 | 0=>rfl
 | m+1=>by
  unfold rowF
  rw [List.range_succ,List.foldl_append]
  show (bookF _ a (rowF ri ps s a f m) _).length = _
  rw [Kaa,X1a ri ps s a f m]
theorem X6a (ri:Zj→Bool) (ps:List Zj) (s:ByteArray) (f:List Int):∀ k,(matchF ri ps s f k).length = f.length
 | 0=>rfl
 | k+1=>by
  unfold matchF
  rw [List.range_succ,List.foldl_append]
  show (rowF ri ps s k (matchF ri ps s f k) _).length = _
  rw [X1a,X6a ri ps s f k]
theorem Own.weaken {X Y h:Hp} {its:List Itm} (H:AM.Own X h its) (hs:Y.sub X):AM.Own Y h its:=by
 obtain ⟨h1,f,a1,a2,a3⟩:=H
 refine ⟨⟨fun b o e=>h1.c b o (hs.c b o e),fun b o e=>h1.r b o (hs.r b o e)⟩,f,fun j it hj=>?_,a2,a3⟩
 have:=a1 j it hj
 cases e:f j with
 | none=>rw [e] at this; exact this
 | some b=>
  rw [e] at this
  refine ⟨this.1,this.2.1,?_⟩
  cases e2:Y b with
  | none=>rfl
  | some o=>have:=hs.c b o e2; simp_all
structure FInv (bf:Nat) (xf:AV) (f:List Int) (M:List BE) (its:List Itm):Prop where
 h0:its[0]? = some ⟨xf,false,1,f.map Xj,some (5,0)⟩
 h1:its[1]? = some ⟨.optr bf 1 0 0,true,1,[[xf]],some (57,1)⟩
 hB:BInv M its
theorem FInv.grow {bf:Nat} {xf:AV} {f:List Int} {M:List BE} {its its2:List Itm} (h:FInv bf xf f M its) (hs:Sub its its2):FInv bf xf f M its2:=⟨hs _ _ h.h0,hs _ _ h.h1,h.hB.grow hs⟩
theorem FInv.put {bf:Nat} {xf:AV} {f:List Int} {M:List BE} {its:List Itm} (h:FInv bf xf f M its) (hp:∀ (j:Nat) e,M[j]? = some e→2≤e.pos) (xf':AV) (f':List Int) :
  FInv bf xf' f' M (([0,1].zip (figI bf xf' f')).foldl (fun a p=>a.set p.1 p.2) its):=by
 have l1:=(List.getElem?_eq_some_iff.1 h.h1).1
 simp only [figI,List.zip_cons_cons,List.zip_nil_left,List.foldl_cons,List.foldl_nil]
 refine ⟨by rw [List.getElem?_set_ne (by omega),List.getElem?_set_self (by omega)],List.getElem?_set_self (by simp; omega),⟨fun j e q=>?_,h.hB.hd⟩⟩
 have h2:=hp j e q
 have h3:=h.hB.hM j e q
 exact ⟨by rw [List.getElem?_set_ne (by omega),List.getElem?_set_ne (by omega)]; exact h3.1,h3.2⟩
theorem W6 {its:List Itm} {k:Nat} {it:Itm} (h:its[k]? = some it):its.getD k dead = it:=by rw [List.getD_eq_getElem?_getD,h]; rfl
abbrev n_hyph_matches:Nat:=135
def ann_hyph_matches:Nat→Ann
 | 10=>{ pure:=[],plan:=(.op 0 (.op 1 (.op 2 (.op 3 (.op 4 (.op 5 (.op 6 (.op 7 (.op 8 .done))))))))),ghost:=false,post:=false }
 | _=>{}
noncomputable def J8:AC:=
 (.block 4 (.loop (.seq (.reg [oO 38 (.binOp .lss 3 (oT 37) (oT 36) 3)]) (.seq (.cond (oT 38) .skip (.exit 4)) (.seq (.block 5 (.seq (.reg [oI 39 24 35 37,oL 40 47 39,oO 10 (.alloc 47),oS (.store 47 (oT 10) (oT 40))]) (.seq (.draw [oM 41 1,oM 42 7,oM 43 7,oM 44 8,oO 45 (.binOp .add 3 (oT 43) (oT 44) 3),oO 46 (.slice 9 (oT 41) (some (oT 42)) (some (oT 45)) none),oF 47 47 10 0,oL 48 9 47,oO 49 (.binOp .eql 9 (oT 46) (oT 48) 9)] (.op 0 (.op 1 (.op 2 (.op 3 (.op 4 (.op 5 (.op 6 (.op 7 (.op 8 .done)))))))))) (.cond (oT 49) (.reg [oM 50 2,oM 51 7,oL 52 47 10,oO 53 (.call (.mk (.value (oT 50)) #[(oT 51),(oT 52)] #[3,47]))]) .skip)))) (.reg [oO 54 (.binOp .add 3 (oT 37) (oC 1) 3),oM 37 54]))))))
noncomputable def J9:AC:=
 (.block 2 (.loop (.seq (.seq (.reg [oM 18 8,oM 19 1,oN 20 19 9,oM 21 7,oO 22 (.binOp .sub 3 (oT 20) (oT 21) 3),oO 23 (.call (.mk (.builtin .min) #[(oC 16),(oT 22)] #[3,3])),oO 24 (.binOp .leq 3 (oT 18) (oT 23) 3)]) (.cond (oT 24) .skip (.exit 2))) (.seq (.block 3 (.seq (.reg [oM 27 6,oM 28 1,oM 29 7,oM 30 7,oM 31 8,oO 32 (.binOp .add 3 (oT 30) (oT 31) 3),oO 33 (.slice 9 (oT 28) (some (oT 29)) (some (oT 32)) none),oO 34 (oK 163 #[(oT 33)] #[9]),oO 35 (.lookup 206 (oT 27) (oT 34) false),oN 36 35 24,oO 37 (.move (oC 0))]) J8)) (.reg [oM 25 8,oO 26 (.binOp .add 3 (oT 25) (oC 1) 3),oA 8 26])))))
noncomputable def Zaa:AC:=
 (.block 0 (.loop (.seq (.reg [oO 16 (.binOp .lss 3 (oT 15) (oT 14) 3)]) (.seq (.cond (oT 16) .skip (.exit 0)) (.seq (.block 1 (.seq (.reg [oM 17 15,oA 7 17]) (.seq (.reg [oO 8 (.assign (oC 1))]) J9))) (.reg [oO 55 (.binOp .add 3 (oT 15) (oC 1) 3),oM 15 55]))))))
noncomputable def Kqa:AC:=
 (.seq (.reg [oM 11 0,oO 12 (oK 162 #[(oT 11)] #[24]),oA 6 12]) (.seq (.reg [oM 13 1,oN 14 13 9,oO 15 (.move (oC 0))]) Zaa))
theorem Xeb:EN Kqa [] 56 135:=acE Tryz.func135 (ann:=ann_hyph_matches)
theorem pats_ok {B h:Hp} {bf mb:Nat} {xf:AV} {f:List Int} {M:List BE} {its:List Itm} (I:FInv bf xf f M its) (H:AM.Own B h its) (hp2:∀ (j:Nat) e,M[j]? = some e→2≤e.pos)
  {s:ByteArray} {a n:Int} (ha:0≤a) (hn:1≤n) (hs:a+n≤s.size) (hsz:s.size≤2000000) (hf:f.length = s.size+1) {l:List Zj} {x:AV} (hl:l.length≤1000000)
  (hx:(x = anil∧l = [])∨∃ (j:Nat) (e:BE),M[j]? = some e∧x = .osl e.blk 2 0 e.pats.length∧l = e.pats) (hfig:∀ p∈l,p.Figures.size = p.Letters.size+1)
  {tm:List AV} (hL:Like tm (((((((((((List.replicate 56 none).set 1 (some (astr s))).set 2 (some (.fn (.func 137) [] [.optr bf 1 0 0]))).set 6 (some (.val (.map (some mb))))).set 14 (some (aint s.size))).set 15 (some (aint a))).set 7 (some (aint a))).set 8 (some (aint n))).set 35 (some x)).set 36 (some (aint l.length))).set 37 (some (aint 0)))) {Q:AX→St→Prop}
  (hQ:∀ xf' its' tm' h',FInv bf xf' (bookF (s.extract a.toNat (a+n).toNat) a.toNat f l) M its'→AM.Own B h' its'→Like tm' ((((((((List.replicate 56 none).set 1 (some (astr s))).set 2 (some (.fn (.func 137) [] [.optr bf 1 0 0]))).set 6 (some (.val (.map (some mb))))).set 14 (some (aint s.size))).set 15 (some (aint a))).set 7 (some (aint a))).set 8 (some (aint n)))→Q .norm ⟨tm',h'⟩) :
  awp Tryz.prog tab J8 Q ⟨tm,h⟩:=by
 obtain ⟨D,rfl⟩:=hL.fill 0
 try simp -implicitDefEqProofs (disch:=omega) only [push_cast,seval,J8]
 refine Vn (σ:=(Int×List Int×List Itm×AV)×Hp)
  (fun ⟨⟨k,f',its,xf⟩,h⟩=>⟨(((((((((((List.replicate 56 AV.any).set 1 (astr s)).set 2 (.fn (.func 137) [] [.optr bf 1 0 0])).set 6 (.val (.map (some mb)))).set 14 (aint s.size)).set 15 (aint a)).set 7 (aint a)).set 8 (aint n)).set 35 x).set 36 (aint l.length)).set 37 (aint k)),h⟩)
  (fun ⟨⟨k,f',its,xf⟩,h⟩=>(0≤k∧k.toNat≤l.length∧f' = bookF (s.extract a.toNat (a+n).toNat) a.toNat f (l.take k.toNat)∧FInv bf xf f' M its)∧AM.Own B h its)
  (fun ⟨⟨k,f',its,xf⟩,h⟩=>l.length - k.toNat) ⟨(0,f,its,xf),h⟩ (rtw) ⟨⟨Int.le_refl _,Nat.zero_le _,rfl,I⟩,H⟩ ?_
 clear I H hL
 rintro ⟨⟨k,f',its,xf⟩,h⟩ ⟨⟨hk,hkl,hf',I⟩,H⟩ N hN
 dsimp only at hf' I H ⊢
 refine sg0 ?_
 refine fkc (fun c1=>?_) fun c1=>?_
 ·obtain ⟨p,hp⟩:∃ p,l[k.toNat]? = some p:=⟨_,List.getElem?_eq_getElem (by omega)⟩
  rcases hx with ⟨rfl,rfl⟩ | ⟨j,e,hj,rfl,rfl⟩
  ·simp at hp
  have hpi:=(I.hB.hM j e hj).1
  obtain ⟨o1,qb,qc,qd,qe⟩:=H.rowX (k:=k.toNat) (r:=Zj.enc p) e.pos hpi (gmp hp)
  try rw [List.length_map] at qe
  have qe:=eq_true qe
  have hz:=eq_true hk
  have w2:IntKind.i64.wrap (k+1) = k+1:=wrap_i64 _ (by omega)
  have w3:IntKind.i64.wrap (a+n) = a+n:=wrap_i64 _ (by omega)
  have z3:=eq_true ha
  have z4:=eq_true (show 0≤a+n by omega)
  have z5:=eq_true (show a.toNat≤(a+n).toNat by omega)
  have z6:=eq_true (show (a+n).toNat≤s.size by omega)
  refine sg (ai (eq_true c1) (ai hz (ai qb (ai qc (ai qd qe))))) ?_
  refine H.newR [.val (.string (ByteArray.mk #[])),.val (.string (ByteArray.mk #[]))] rfl (fun b1 h2 H=>?_)
  have g1:(its++[(⟨.optr b1 2 0 0,true,2,[[.val (.string (ByteArray.mk #[])),.val (.string (ByteArray.mk #[]))]],some (47,2)⟩:Itm)])[its.length]? = some ⟨.optr b1 2 0 0,true,2,[[.val (.string (ByteArray.mk #[])),.val (.string (ByteArray.mk #[]))]],some (47,2)⟩:=by simp
  refine sg (H.p _ g1) ?_
  refine H.stP _ (Zj.enc p) g1 rfl rfl rfl (Nat.le_of_ble_eq_true rfl) rfl (fun h3 H=>?_)
  have S1:Sub its ((its++[(⟨.optr b1 2 0 0,true,2,[[.val (.string (ByteArray.mk #[])),.val (.string (ByteArray.mk #[]))]],some (47,2)⟩:Itm)]).set its.length ⟨.optr b1 2 0 0,true,2,[Zj.enc p],some (47,2)⟩):=fun k it q=>by
   have:=(List.getElem?_eq_some_iff.1 q).1
   rw [List.getElem?_set_ne (by omega),List.getElem?_append_left this]; exact q
  have g2:=Z0a (⟨.optr b1 2 0 0,true,2,[Zj.enc p],some (47,2)⟩:Itm) g1
  generalize (its++[(⟨.optr b1 2 0 0,true,2,[[.val (.string (ByteArray.mk #[])),.val (.string (ByteArray.mk #[]))]],some (47,2)⟩:Itm)]).set its.length ⟨.optr b1 2 0 0,true,2,[Zj.enc p],some (47,2)⟩ = its1 at H S1 g2
  have I1:=I.grow S1
  have p1:=H.p _ g2
  have hstep:bookF (s.extract a.toNat (a+n).toNat) a.toNat f (e.pats.take (k+1).toNat) = if s.extract a.toNat (a+n).toNat = p.Letters then maxL f' a.toNat (Zd p.Figures) else f':=by
   rw [show (k+1).toNat = k.toNat+1 by omega,List.take_add_one,hp,hf']
   unfold bookF
   rw [List.foldl_append]; rfl
  have hf'l:f'.length = f.length:=by rw [hf',Kaa]
  refine sg (ai p1 (ai w3 (ai z3 (ai z4 (ai z5 z6))))) ?_
  refine fkc (fun c2=>?_) fun c2=>?_
  ·refine sg p1 ?_
   have hfs:=hfig p (List.mem_of_getElem? hp)
   have hsize:=congrArg ByteArray.size c2
   rw [ByteArray.size_extract] at hsize
   obtain ⟨h5,HF,hB1,-⟩:=H.frameS [0,1] (by decide)
   refine Z1 (tell_ok (HF.eq (by simp only [List.map_cons,List.map_nil,W6 I1.h0,W6 I1.h1]; rfl)) a p ha (by omega) (by omega)) ?_
   rintro _ h6 ⟨xf',rfl,H'⟩
   refine sg w2 ?_
   rw [if_pos c2] at hstep
   exact hN ⟨(k+1,maxL f' a.toNat (Zd p.Figures),_,xf'),h6⟩ _ (by show e.pats.length - (k+1).toNat < e.pats.length - k.toNat; omega) ⟨⟨by omega,by omega,hstep.symm,I1.put hp2 xf' _⟩,hB1 _ _ rfl H'⟩ (rtw)
  ·refine sg w2 ?_
   rw [if_neg c2] at hstep
   exact hN ⟨(k+1,f',its1,xf),h3⟩ _ (by show e.pats.length - (k+1).toNat < e.pats.length - k.toNat; omega) ⟨⟨by omega,by omega,hstep.symm,I1⟩,H⟩ (rtw)
 ·refine sg0 ?_
  rw [List.take_of_length_le (by omega)] at hf'
  subst hf'
  exact hQ _ _ _ _ I H lkt
theorem lens_ok {h0 h:Hp} {bf mb:Nat} {xf:AV} {f:List Int} {M:List BE} {its:List Itm} (I:FInv bf xf f M its) (hD:Xf h0 [(mb,mapB M)]) (H:AM.Own (h0.addR [(mb,mapB M)]) h its) (hp2:∀ (j:Nat) e,M[j]? = some e→2≤e.pos)
  {ri:Zj→Bool} {ps:List Zj} (hS:BSpec ri ps M) (hps:ps.length≤1000000) (hri:∀ p,ri p = true→p.Figures.size = p.Letters.size+1)
  {s:ByteArray} {a:Int} (ha:0≤a) (hs:a < s.size) (hsz:s.size≤2000000) (hf:f.length = s.size+1)
  {tm:List AV} (hL:Like tm ((((((((List.replicate 56 none).set 1 (some (astr s))).set 2 (some (.fn (.func 137) [] [.optr bf 1 0 0]))).set 6 (some (.val (.map (some mb))))).set 14 (some (aint s.size))).set 15 (some (aint a))).set 7 (some (aint a))).set 8 (some (aint 1)))) {Q:AX→St→Prop}
  (hQ:∀ xf' its' tm' h',FInv bf xf' (rowF ri ps s a.toNat f (min 16 (s.size - a.toNat))) M its'→AM.Own (h0.addR [(mb,mapB M)]) h' its'→Like tm' ((((((List.replicate 56 none).set 1 (some (astr s))).set 2 (some (.fn (.func 137) [] [.optr bf 1 0 0]))).set 6 (some (.val (.map (some mb))))).set 14 (some (aint s.size))).set 15 (some (aint a)))→Q .norm ⟨tm',h'⟩) :
  awp Tryz.prog tab J9 Q ⟨tm,h⟩:=by
 obtain ⟨D,rfl⟩:=hL.fill 0
 try simp -implicitDefEqProofs (disch:=omega) only [push_cast,seval,J9]
 refine Vn (σ:=(Int×List Int×List Itm×AV)×Hp)
  (fun ⟨⟨n,f',its,xf⟩,h⟩=>⟨((((((((List.replicate 56 AV.any).set 1 (astr s)).set 2 (.fn (.func 137) [] [.optr bf 1 0 0])).set 6 (.val (.map (some mb)))).set 14 (aint s.size)).set 15 (aint a)).set 7 (aint a)).set 8 (aint n)),h⟩)
  (fun ⟨⟨n,f',its,xf⟩,h⟩=>(1≤n∧(n - 1).toNat≤min 16 (s.size - a.toNat)∧f' = rowF ri ps s a.toNat f (n - 1).toNat∧FInv bf xf f' M its)∧AM.Own (h0.addR [(mb,mapB M)]) h its)
  (fun ⟨⟨n,f',its,xf⟩,h⟩=>17 - n.toNat) ⟨(1,f,its,xf),h⟩ (rtw) ⟨⟨Int.le_refl _,Nat.zero_le _,rfl,I⟩,H⟩ ?_
 clear I H hL
 rintro ⟨⟨n,f',its,xf⟩,h⟩ ⟨⟨hn,hnl,hf',I⟩,H⟩ N hN
 dsimp only at hf' I H ⊢
 have w1:IntKind.i64.wrap ((s.size:Int) - a) = (s.size:Int) - a:=wrap_i64 _ (by omega)
 refine sg w1 ?_
 refine fkc (fun c1=>?_) fun c1=>?_
 ·have c1:n≤16∧n≤s.size - a:=by split at c1 <;> omega
  have w2:IntKind.i64.wrap (n+1) = n+1:=wrap_i64 _ (by omega)
  have w3:IntKind.i64.wrap (a+n) = a+n:=wrap_i64 _ (by omega)
  have z3:=eq_true ha
  have z4:=eq_true (show 0≤a+n by omega)
  have z5:=eq_true (show a.toNat≤(a+n).toNat by omega)
  have z6:=eq_true (show (a+n).toNat≤s.size by omega)
  refine sg (ai w3 (ai z3 (ai z4 (ai z5 z6)))) ?_
  refine Zn (fun h=>key_ok (Q:=(· = keyP (s.extract a.toNat (a+n).toNat))) rfl h) (fun r1 e1=>?_)
  subst e1
  try simp -implicitDefEqProofs (disch:=omega) only [push_cast,seval,Via.enc]
  refine look_sl (kv:=kvS) (vv:=vvS) Z8a Zob Znb tab_24 (H.rawAt hD 0 rfl) (keyP (s.extract a.toNat (a+n).toNat)) (by rfl) rfl ?_
  obtain ⟨x,l,hlook,hx,hb⟩:∃ (x:AV) (l:List Zj),lookS ⟨1,24,[(Value.slice none 0 0)],.sl 47,none⟩ h vvS (aget (M.map BE.L) (keyP (s.extract a.toNat (a+n).toNat))) = x ∧
    ((x = anil∧l = [])∨∃ (j:Nat) (e:BE),M[j]? = some e∧x = .osl e.blk 2 0 e.pats.length∧l = e.pats)∧l = V9a ri ps (keyP (s.extract a.toNat (a+n).toNat)):=by
   have hb:=hS (keyP (s.extract a.toNat (a+n).toNat))
   rcases find_b (keyP (s.extract a.toNat (a+n).toNat)) M with ⟨f1,f2,f3,f4⟩ | ⟨j,e,f1,f2,f3,f4⟩
   ·rw [f2,Option.getD_none] at hb
    exact ⟨anil,[],by rw [f1]; rfl,.inl ⟨rfl,rfl⟩,hb⟩
   ·rw [f3,Option.getD_some] at hb
    obtain ⟨k1,k2,k3,k4⟩:=I.hB.hM j e f1
    obtain ⟨⟨tl,q1⟩,_⟩:=H.getS e.pos k1
    exact ⟨.osl e.blk 2 0 e.pats.length,e.pats,by rw [f2]; exact rowAV_some q1 (by omega) k3 k4,.inr ⟨j,e,f1,rfl,rfl⟩,hb⟩
  rw [hlook]
  have hbk:∀ p∈l,ri p = true:=fun p hp=>by
   rw [hb] at hp
   have:=(List.mem_filter.1 hp).2
   simp at this; exact this.1
  have hll:l.length≤1000000:=by
   rw [hb]
   have:=List.length_filter_le (fun q=>ri q && decide (keyP q.Letters = keyP (s.extract a.toNat (a+n).toNat))) ps
   unfold V9a; omega
  have hrow:bookF (s.extract a.toNat (a+n).toNat) a.toNat f' l = rowF ri ps s a.toNat f (n+1 - 1).toNat:=by
   rw [show (n+1 - 1).toNat = (n - 1).toNat+1 by omega,rowF,List.range_succ,List.foldl_append]
   show _ = bookF _ _ (rowF ri ps s a.toNat f (n - 1).toNat) _
   rw [← hf',hb,show (a+n).toNat = a.toNat+((n - 1).toNat+1) by omega]
  have fin:∀ (xf':AV) (its':List Itm) (h':Hp) (s'':St),FInv bf xf' (bookF (s.extract a.toNat (a+n).toNat) a.toNat f' l) M its'→AM.Own (h0.addR [(mb,mapB M)]) h' its'→Xg s'' ⟨((((((((List.replicate 56 AV.any).set 1 (astr s)).set 2 (.fn (.func 137) [] [.optr bf 1 0 0])).set 6 (.val (.map (some mb)))).set 14 (aint s.size)).set 15 (aint a)).set 7 (aint a)).set 8 (aint (n+1))),h'⟩→N s'':=by
   intro xf' its' h' s'' I' H' hR
   rw [hrow] at I'
   exact hN ⟨(n+1,rowF ri ps s a.toNat f (n+1 - 1).toNat,its',xf'),h'⟩ s'' (by show 17 - (n+1).toNat < 17 - n.toNat; omega) ⟨⟨by omega,by omega,rfl,I'⟩,H'⟩ hR
  have hx0:=hx
  rcases hx0 with ⟨rfl,rfl⟩ | ⟨j,e,hj,rfl,rfl⟩
  ·refine sg0 ?_
   refine pats_ok I H hp2 ha hn (by omega) hsz (by rw [hf',X1a]; exact hf) (by simp) hx (fun p hp=>hri p (hbk p hp)) lkt (fun xf' its' tm' h' I' H' hL'=>?_)
   obtain ⟨D,rfl⟩:=hL'.fill 0
   refine sg w2 ?_
   exact fin xf' its' h' _ I' H' (rtw)
  ·refine sg0 ?_
   refine pats_ok I H hp2 ha hn (by omega) hsz (by rw [hf',X1a]; exact hf) hll hx (fun p hp=>hri p (hbk p hp)) lkt (fun xf' its' tm' h' I' H' hL'=>?_)
   obtain ⟨D,rfl⟩:=hL'.fill 0
   refine sg w2 ?_
   exact fin xf' its' h' _ I' H' (rtw)
 ·refine sg0 ?_
  have e:(n - 1).toNat = min 16 (s.size - a.toNat):=by split at c1 <;> omega
  rw [e] at hf'
  subst hf'
  exact hQ _ _ _ _ I H lkt
theorem places_ok {h0 h:Hp} {bf mb:Nat} {xf:AV} {f:List Int} {M:List BE} {its:List Itm} (I:FInv bf xf f M its) (hD:Xf h0 [(mb,mapB M)]) (H:AM.Own (h0.addR [(mb,mapB M)]) h its) (hp2:∀ (j:Nat) e,M[j]? = some e→2≤e.pos)
  {ri:Zj→Bool} {ps:List Zj} (hS:BSpec ri ps M) (hps:ps.length≤1000000) (hri:∀ p,ri p = true→p.Figures.size = p.Letters.size+1)
  {s:ByteArray} (hsz:s.size≤2000000) (hf:f.length = s.size+1)
  {tm:List AV} (hL:Like tm ((((((List.replicate 56 none).set 1 (some (astr s))).set 2 (some (.fn (.func 137) [] [.optr bf 1 0 0]))).set 6 (some (.val (.map (some mb))))).set 14 (some (aint s.size))).set 15 (some (aint 0)))) {Q:AX→St→Prop}
  (hQ:∀ xf' its' tm' h',FInv bf xf' (matchF ri ps s f s.size) M its'→AM.Own (h0.addR [(mb,mapB M)]) h' its'→Q .norm ⟨tm',h'⟩) :
  awp Tryz.prog tab Zaa Q ⟨tm,h⟩:=by
 obtain ⟨D,rfl⟩:=hL.fill 0
 try simp -implicitDefEqProofs (disch:=omega) only [push_cast,seval,Zaa]
 refine Vn (σ:=(Int×List Int×List Itm×AV)×Hp)
  (fun ⟨⟨a,f',its,xf⟩,h⟩=>⟨((((((List.replicate 56 AV.any).set 1 (astr s)).set 2 (.fn (.func 137) [] [.optr bf 1 0 0])).set 6 (.val (.map (some mb)))).set 14 (aint s.size)).set 15 (aint a)),h⟩)
  (fun ⟨⟨a,f',its,xf⟩,h⟩=>(0≤a∧a.toNat≤s.size∧f' = matchF ri ps s f a.toNat∧FInv bf xf f' M its)∧AM.Own (h0.addR [(mb,mapB M)]) h its)
  (fun ⟨⟨a,f',its,xf⟩,h⟩=>s.size - a.toNat) ⟨(0,f,its,xf),h⟩ (rtw) ⟨⟨Int.le_refl _,Nat.zero_le _,rfl,I⟩,H⟩ ?_
 clear I H hL
 rintro ⟨⟨a,f',its,xf⟩,h⟩ ⟨⟨ha,hal,hf',I⟩,H⟩ N hN
 dsimp only at hf' I H ⊢
 refine sg0 ?_
 refine fkc (fun c1=>?_) fun c1=>?_
 ·have w2:IntKind.i64.wrap (a+1) = a+1:=wrap_i64 _ (by omega)
  refine sg0 ?_
  refine lens_ok I hD H hp2 hS hps hri ha c1 hsz (by rw [hf',X6a]; exact hf) lkt (fun xf' its' tm' h' I' H' hL'=>?_)
  obtain ⟨D,rfl⟩:=hL'.fill 0
  refine sg w2 ?_
  have e:rowF ri ps s a.toNat f' (min 16 (s.size - a.toNat)) = matchF ri ps s f (a+1).toNat:=by
   rw [show (a+1).toNat = a.toNat+1 by omega,matchF,List.range_succ,List.foldl_append]
   show _ = rowF ri ps s a.toNat (matchF ri ps s f a.toNat) _
   rw [← hf']
  rw [e] at I'
  exact hN ⟨(a+1,matchF ri ps s f (a+1).toNat,its',xf'),h'⟩ _ (by show s.size - (a+1).toNat < s.size - a.toNat; omega) ⟨⟨by omega,by omega,rfl,I'⟩,H'⟩ (rtw)
 ·refine sg0 ?_
  rw [show a.toNat = s.size by omega] at hf'
  subst hf'
  exact hQ _ _ _ _ I H
theorem Own.addRs {h0 h:Hp} {its:List Itm} {rs:List (Nat×Obj)} (H:AM.Own h0 h its):AM.Own (h0.addR rs) (h.addR rs) its:=by
 obtain ⟨h1,f,a1,a2,a3⟩:=H
 refine ⟨⟨h1.c,fun b o e=>?_⟩,f,a1,a2,a3⟩
 simp only [Hp.addR] at e ⊢
 split at e
 ·exact e
 ·exact h1.r b o e
def BE.up (e:BE):BE:={ e with pos:=e.pos+2 }
theorem matches_ok {h0 h:Hp} {bf:Nat} {xf:AV} {f:List Int} (H:AM.Own h0 h (figI bf xf f)) {ri:Zj→Bool} {ps:List Zj} (hps:ps.length≤1000000) (hri:∀ p,ri p = true→p.Figures.size = p.Letters.size+1)
  (hw:∀ p∈ps,right.w p (· = ri p)) {s:ByteArray} (hsz:s.size≤2000000) (hf:f.length = s.size+1) :
  Zo Tryz.prog n_hyph_matches [.isl 2 (ps.map Zj.enc),astr s,.fn (.func 137) [] [.optr bf 1 0 0]] h fun e h'=>∃ xf',e = .ret (.tup [])∧AM.Own h0 h' (figI bf xf' (matchF ri ps s f s.size)):=by
 refine Xeb ?_
 try simp -implicitDefEqProofs (disch:=omega) only [push_cast,seval,Kqa]
 refine Z1 (book_ok hps hw h) ?_
 rintro _ h1 ⟨mb,M,its,rfl,hD,HB,hB,hS⟩
 have hD0':∀ p∈[(mb,mapB M)],h0.r p.1 = none:=fun p hp=>by
  cases e:h0.r p.1 with
  | none=>rfl
  | some o=>exact absurd (H.sub.r _ _ e) (by rw [hD.1 p hp]; simp)
 have hD0:Xf h0 [(mb,mapB M)]:=⟨hD0',hD.2⟩
 have HJ:=(Own.addRs (rs:=[(mb,mapB M)]) H).joined HB
 have e1:mapB (M.map BE.up) = mapB M:=by simp only [mapB,List.map_map]; rfl
 have e2:(M.map BE.up).map BE.P = M.map BE.P:=by rw [List.map_map]; rfl
 have hS2:BSpec ri ps (M.map BE.up):=fun o=>by rw [e2]; exact hS o
 have at_:∀ (j:Nat) e,(M.map BE.up)[j]? = some e→∃ e0,M[j]? = some e0∧e = e0.up:=by
  intro j e q
  rw [List.getElem?_map] at q
  cases h:M[j]? with
  | none=>rw [h] at q; cases q
  | some e0=>rw [h] at q; cases q; exact ⟨e0,rfl,rfl⟩
 have hB2:BInv (M.map BE.up) (figI bf xf f++its):=⟨fun j e q=>by
  obtain ⟨e0,q0,rfl⟩:=at_ j e q
  have:=hB.hM j e0 q0
  refine ⟨?_,this.2⟩
  show (figI bf xf f++its)[e0.pos+2]? = _
  rw [List.getElem?_append_right (by simp [figI])]
  have e:patsItm e0.up = patsItm e0:=rfl
  rw [e]
  simpa [figI] using this.1,fun j j' e e' q q' hq=>by
  obtain ⟨e0,q0,rfl⟩:=at_ j e q
  obtain ⟨e0',q0',rfl⟩:=at_ j' e' q'
  have hq:e0.pos+2 = e0'.pos+2:=hq
  exact hB.hd j j' e0 e0' q0 q0' (by omega)⟩
 refine sg0 ?_
 rw [← e1] at HJ hD0
 refine places_ok (xf:=xf) (f:=f) (M:=M.map BE.up) (its:=figI bf xf f++its) ⟨rfl,rfl,hB2⟩ hD0 HJ (fun j e q=>by obtain ⟨e0,_,rfl⟩:=at_ j e q; show 2≤e0.pos+2; omega) hS2 hps hri hsz hf lkt (fun xf' its' tm' h' I' H'=>?_)
 refine Yx (.inr rfl) rfl ⟨xf',rfl,?_⟩
 have H2:=(Own.weaken H' (Ownr.sub ⟨hD0,Own.nil _⟩)).perm [0,1] (by decide)
 exact H2.eq (by simp only [List.map_cons,List.map_nil,W6 I'.h0,W6 I'.h1]; rfl)
end Go.Proofs.YtpkhmfedaaoalaaGreatDoor.Fg
