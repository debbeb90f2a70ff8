/- ItemsGlues: a part of its proof (packed by a program). -/
import Derived.Test.YtpkhmfedaaoalaaGreatDoorHkz
set_option linter.all false
namespace Go.Proofs.YtpkhmfedaaoalaaGreatDoor.Fg
open Go Go.Proofs.YtpkhmfedaaoalaaGreatDoor Go.Proofs.YtpkhmfedaaoalaaGreatDoor.AM
set_option maxHeartbeats 40000000
set_option maxRecDepth 100000
structure BE where
 key:Via
 blk:Nat
 pos:Nat
 pats:List Zj
 cap:Nat
 m:Nat
def BE.L (e:BE):Via×(Nat×Nat×Nat):=(e.key,(e.blk,e.pats.length,e.cap))
def BE.P (e:BE):Via×List Zj:=(e.key,e.pats)
def kvS (x:Via):Value:=.agg #[.int .i64 x.size,.int .u8 x.a,.int .u8 x.b]
def vvS (x:Nat×Nat×Nat):Value:=.slice (some ⟨x.1,0,none⟩) x.2.1 x.2.2
def mapB (M:List BE):Obj:=Yo ((M.map BE.L).map fun p=>(kvS p.1,vvS p.2))
theorem Kga {α β:Type} [DecidableEq α]:∀ (m:List (α×β)) (x y:α) (v:β),aget (aset m x v) y = if y = x then some v else aget m y
 | [],x,y,v=>by simp only [aset,aget]
 | p :: m,x,y,v=>by
  simp only [aset]
  split
  ·rename_i e; subst e
   simp only [aget]
   split <;> rfl
  ·rename_i e
   simp only [aget,Kga m x y v]
   by_cases h:y = p.1
   ·subst h; simp [Ne.symm e]
   ·simp [h]
theorem find_b (o:Via):∀ M:List BE,
  (aget (M.map BE.L) o = none∧aget (M.map BE.P) o = none∧(∀ v,aset (M.map BE.L) o v = M.map BE.L++[(o,v)])∧∀ v,aset (M.map BE.P) o v = M.map BE.P++[(o,v)]) ∨
  ∃ j e,M[j]? = some e∧aget (M.map BE.L) o = some (e.blk,e.pats.length,e.cap)∧aget (M.map BE.P) o = some e.pats ∧
   ∀ (e':BE),e'.key = o→aset (M.map BE.L) o e'.L.2 = (M.set j e').map BE.L∧aset (M.map BE.P) o e'.P.2 = (M.set j e').map BE.P
 | []=>.inl ⟨rfl,rfl,fun _=>rfl,fun _=>rfl⟩
 | e :: M=>by
  by_cases h:o = e.key
  ·refine .inr ⟨0,e,rfl,?_,?_,fun e' he=>⟨?_,?_⟩⟩
   ·simp only [List.map_cons,BE.L,aget,h,if_true]
   ·simp only [List.map_cons,BE.P,aget,h,if_true]
   ·simp only [List.map_cons,BE.L,aset,h,if_true,List.set_cons_zero,he]
   ·simp only [List.map_cons,BE.P,aset,h,if_true,List.set_cons_zero,he]
  ·rcases find_b o M with ⟨h1,h2,h3,h4⟩ | ⟨j,e',h1,h2,h3,h4⟩
   ·refine .inl ⟨?_,?_,fun v=>?_,fun b=>?_⟩
    ·simp only [List.map_cons,BE.L,aget,h,if_false] at h1 ⊢; exact h1
    ·simp only [List.map_cons,BE.P,aget,h,if_false] at h2 ⊢; exact h2
    ·have:=h3 v; simp only [List.map_cons,BE.L,aset,h,if_false] at this ⊢; rw [this]; rfl
    ·have:=h4 b; simp only [List.map_cons,BE.P,aset,h,if_false] at this ⊢; rw [this]; rfl
   ·refine .inr ⟨j+1,e',by simpa using h1,?_,?_,fun e2 he=>?_⟩
    ·simp only [List.map_cons,BE.L,aget,h,if_false] at h2 ⊢; exact h2
    ·simp only [List.map_cons,BE.P,aget,h,if_false] at h3 ⊢; exact h3
    ·obtain ⟨g1,g2⟩:=h4 e2 he
     constructor
     ·simp only [List.map_cons,BE.L,aset,h,if_false,List.set_cons_succ] at g1 ⊢; rw [g1]
     ·simp only [List.map_cons,BE.P,aset,h,if_false,List.set_cons_succ] at g2 ⊢; rw [g2]
def patsItm (e:BE):Itm:=⟨.osl e.blk 2 0 e.pats.length,false,2,e.pats.map Zj.enc,some (47,e.m)⟩
structure BInv (M:List BE) (its:List Itm):Prop where
 hM:∀ (j:Nat) e,M[j]? = some e→its[e.pos]? = some (patsItm e)∧0 < e.pats.length∧e.pats.length≤e.cap∧e.cap * 2≤e.m
 hd:∀ (j j':Nat) e e',M[j]? = some e→M[j']? = some e'→e.pos = e'.pos→j = j'
def Sub (a b:List Itm):Prop:=∀ (k:Nat) it,a[k]? = some it→b[k]? = some it
theorem BInv.grow {M:List BE} {its its2:List Itm} (h:BInv M its) (hs:Sub its its2):BInv M its2:=
 ⟨fun j e q=>⟨hs _ _ (h.hM j e q).1,(h.hM j e q).2⟩,h.hd⟩
theorem BInv.set {M:List BE} {its its':List Itm} (h:BInv M its) {j:Nat} {e e':BE} (he:M[j]? = some e) (hp:e'.pos = e.pos) (hc:0 < e'.pats.length∧e'.pats.length≤e'.cap∧e'.cap * 2≤e'.m)
  (hs:∀ (k:Nat) it,k≠e.pos→its[k]? = some it→its'[k]? = some it) (hn:its'[e.pos]? = some (patsItm e')):BInv (M.set j e') its':=by
 have at_:∀ (k:Nat) e2,(M.set j e')[k]? = some e2→(k = j∧e2 = e')∨(k≠j∧M[k]? = some e2):=by
  intro k e2 q
  rw [List.getElem?_set] at q
  split at q
  ·split at q
   ·cases q; exact .inl ⟨by omega,rfl⟩
   ·cases q
  ·exact .inr ⟨by omega,q⟩
 refine ⟨fun k e2 q=>?_,fun k k' e1 e2 q1 q2 hq=>?_⟩
 ·rcases at_ k e2 q with ⟨rfl,rfl⟩ | ⟨hk,q⟩
  ·exact ⟨by rw [hp]; exact hn,hc⟩
  ·have h1:=h.hM k e2 q
   have h4:e.pos≠e2.pos:=fun w=>hk (h.hd j k e e2 he q w).symm
   exact ⟨hs _ _ (Ne.symm h4) h1.1,h1.2⟩
 ·rcases at_ k e1 q1 with ⟨g1,rfl⟩ | ⟨hk,q3⟩ <;> rcases at_ k' e2 q2 with ⟨g2,rfl⟩ | ⟨hk',q4⟩
  ·omega
  ·exact absurd (h.hd _ _ e e2 he q4 (by rw [← hp]; exact hq)) (by omega)
  ·exact absurd (h.hd _ _ e1 e q3 he (by rw [← hp]; exact hq)) (by omega)
  ·exact h.hd _ _ e1 e2 q3 q4 hq
theorem BInv.new {M:List BE} {its:List Itm} (h:BInv M its) {e':BE} (hp:its[e'.pos]? = some (patsItm e')) (hn:∀ (j:Nat) e,M[j]? = some e→e.pos≠e'.pos) (hc:0 < e'.pats.length∧e'.pats.length≤e'.cap∧e'.cap * 2≤e'.m) :
  BInv (M++[e']) its:=by
 have at_:∀ (j:Nat) e,(M++[e'])[j]? = some e→M[j]? = some e∨(j = M.length∧e = e'):=by
  intro j e q
  rw [List.getElem?_append] at q
  split at q
  ·exact .inl q
  ·rename_i hl
   have:j - M.length = 0:=by
    have:=(List.getElem?_eq_some_iff.1 q).1
    simp at this; omega
   rw [this] at q
   simp at q
   exact .inr ⟨by omega,q.symm⟩
 refine ⟨fun j e q=>?_,fun j j' e e2 q q' hq=>?_⟩
 ·rcases at_ j e q with q | ⟨_,rfl⟩
  ·exact h.hM j e q
  ·exact ⟨hp,hc⟩
 ·rcases at_ j e q with q3 | ⟨r1,r3⟩ <;> rcases at_ j' e2 q' with q4 | ⟨r2,r4⟩
  ·exact h.hd j j' e e2 q3 q4 hq
  ·exact absurd (r4 ▸ hq) (hn j e q3)
  ·exact absurd (r3 ▸ hq.symm) (hn j' e2 q4)
  ·rw [r1,r2]
abbrev n_hyph_book:Nat:=162
def ann_hyph_book:Nat→Ann
 | 6=>{ pure:=[3,7],plan:=(.op 0 (.op 1 (.op 2 (.op 3 (.op 4 (.op 5 (.op 6 (.op 7 (.both (.op 8 (.op 9 (.op 10 (.op 11 (.op 12 .done))))) (.op 9 (.both (.op 8 (.op 10 (.op 11 (.op 12 .done)))) (.op 10 (.op 8 (.op 11 (.op 12 .done))))))))))))))),ghost:=false,post:=false }
 | _=>{}
noncomputable def ac_hyph_book:AC:=
 (.seq (.reg [oO 2 (.assign (.const (.map none)))]) (.seq (.reg [oO 6 (.makeMap 206 none),oA 3 6]) (.seq (.seq (.reg [oM 7 0,oN 8 7 24,oO 9 (.move (oC 0))]) (.block 0 (.loop (.seq (.reg [oO 10 (.binOp .lss 3 (oT 9) (oT 8) 3)]) (.seq (.cond (oT 10) .skip (.exit 0)) (.seq (.block 1 (.seq (.reg [oI 11 24 7 9,oL 12 47 11,oO 5 (.alloc 47),oS (.store 47 (oT 5) (oT 12))]) (.seq (.reg [oL 13 47 5,oO 14 (oK 170 #[(oT 13)] #[47])]) (.cond (oT 14) (.draw [oM 15 3,oF 16 47 5 0,oL 17 9 16,⟨some 18,(oK 163 #[(oT 17)] #[9]),none,true⟩,oM 19 3,oF 20 47 5 0,oL 21 9 20,⟨some 22,(oK 163 #[(oT 21)] #[9]),none,true⟩,oO 23 (.lookup 206 (oT 19) (oT 22) false),oL 24 47 5,oO 25 (.buildSlice 24 1 #[(0,(oT 24))]),oO 26 (.call (.mk (.builtin .append) #[(oT 23),(oT 25)] #[24,24])),oS (.mapUpdate 206 (oT 15) (oT 18) (oT 26))] (.op 0 (.op 1 (.op 2 (.op 3 (.op 4 (.op 5 (.op 6 (.op 7 (.both (.op 8 (.op 9 (.op 10 (.op 11 (.op 12 .done))))) (.op 9 (.both (.op 8 (.op 10 (.op 11 (.op 12 .done)))) (.op 10 (.op 8 (.op 11 (.op 12 .done)))))))))))))))) .skip)))) (.reg [oO 27 (.binOp .add 3 (oT 9) (oC 1) 3),oM 9 27]))))))) (.seq (.reg [oM 28 3,oA 2 28]) .ret))))
theorem enter_hyph_book:EN ac_hyph_book [(ResultVar.tmp 2)] 29 162:=acE Tryz.func162 (ann:=ann_hyph_book)
def BSpec (ri:Zj→Bool) (ps:List Zj) (M:List BE):Prop:=∀ o,(aget (M.map BE.P) o).getD [] = V9a ri ps o
theorem book_ok {ps:List Zj} (hps:ps.length≤1000000) {ri:Zj→Bool} (hri:∀ p∈ps,right.w p (· = ri p)) (h0:Hp) :
  Zo Tryz.prog n_hyph_book [.isl 2 (ps.map Zj.enc)] h0 fun e h'=>∃ mb M its,e = .ret (.val (.map (some mb)))∧Xf h0 [(mb,mapB M)]∧AM.Own (h0.addR [(mb,mapB M)]) h' its∧BInv M its∧BSpec ri ps M:=by
 refine enter_hyph_book ?_
 have H:=AM.Own.nil h0
 try simp -implicitDefEqProofs (disch:=omega) only [push_cast,seval,ac_hyph_book]
 refine mk_of0 H (fun mb h1 hD H=>?_)
 refine sg0 ?_
 refine Vn (σ:=(Int×List BE×List Itm)×Hp)
  (fun ⟨⟨i,M,its⟩,h⟩=>⟨(((((List.replicate 29 AV.any).set 3 (.val (.map (some mb)))).set 7 (.isl 2 (ps.map Zj.enc))).set 8 (aint ps.length)).set 9 (aint i)),h⟩)
  (fun ⟨⟨i,M,its⟩,h⟩=>(0≤i∧i.toNat≤ps.length∧BInv M its∧BSpec ri (ps.take i.toNat) M)∧Xf h0 [(mb,mapB M)]∧AM.Own (h0.addR [(mb,mapB M)]) h its)
  (fun ⟨⟨i,M,its⟩,h⟩=>ps.length - i.toNat) ⟨(0,[],[]),h1⟩ (rtw) ⟨⟨Int.le_refl _,Nat.zero_le _,⟨fun j e q=>by simp at q,fun j j' e e' q=>by simp at q⟩,fun o=>by simp [aget,V9a]⟩,hD,H⟩ ?_
 clear H hD
 rintro ⟨⟨i,M,its⟩,h⟩ ⟨⟨hi,hil,hB,hS⟩,hD,H⟩ N hN
 dsimp only at hD H ⊢
 refine sg0 ?_
 refine fkc (fun c1=>?_) fun c1=>?_
 ·obtain ⟨p,hp⟩:∃ p,ps[i.toNat]? = some p:=⟨_,List.getElem?_eq_getElem (by omega)⟩
  have hz:=eq_true hi
  have w2:IntKind.i64.wrap (i+1) = i+1:=wrap_i64 _ (by omega)
  refine sg (ai (eq_true c1) (ai hz hp)) ?_
  refine H.newR [.val (.string (ByteArray.mk #[])),.val (.string (ByteArray.mk #[]))] rfl (fun b1 h2 H=>?_)
  have g1:(its++[(⟨.optr b1 2 0 0,true,2,[[.val (.string (ByteArray.mk #[])),.val (.string (ByteArray.mk #[]))]],some (47,2)⟩:Itm)])[its.length]? = some ⟨.optr b1 2 0 0,true,2,[[.val (.string (ByteArray.mk #[])),.val (.string (ByteArray.mk #[]))]],some (47,2)⟩:=by simp
  refine sg (H.p _ g1) ?_
  refine H.stP _ (Zj.enc p) g1 rfl rfl rfl (Nat.le_of_ble_eq_true rfl) rfl (fun h3 H=>?_)
  have S1:Sub its ((its++[(⟨.optr b1 2 0 0,true,2,[[.val (.string (ByteArray.mk #[])),.val (.string (ByteArray.mk #[]))]],some (47,2)⟩:Itm)]).set its.length ⟨.optr b1 2 0 0,true,2,[Zj.enc p],some (47,2)⟩):=fun k it q=>by
   have:=(List.getElem?_eq_some_iff.1 q).1
   rw [List.getElem?_set_ne (by omega),List.getElem?_append_left this]; exact q
  have g2:=Z0a (⟨.optr b1 2 0 0,true,2,[Zj.enc p],some (47,2)⟩:Itm) g1
  have l1:((its++[(⟨.optr b1 2 0 0,true,2,[[.val (.string (ByteArray.mk #[])),.val (.string (ByteArray.mk #[]))]],some (47,2)⟩:Itm)]).set its.length ⟨.optr b1 2 0 0,true,2,[Zj.enc p],some (47,2)⟩).length = its.length+1:=by simp
  generalize (its++[(⟨.optr b1 2 0 0,true,2,[[.val (.string (ByteArray.mk #[])),.val (.string (ByteArray.mk #[]))]],some (47,2)⟩:Itm)]).set its.length ⟨.optr b1 2 0 0,true,2,[Zj.enc p],some (47,2)⟩ = its1 at H S1 g2 l1
  have p1:=H.p _ g2
  refine sg p1 ?_
  refine Zn (fun h=>right_ok (hri p (List.mem_of_getElem? hp)) h) (fun r1 e1=>?_)
  subst e1
  refine sg p1 ?_
  rw [Zw]
  refine ⟨fun c2=>?_,fun c2=>?_⟩
  ·have hk:∀ h,Zo Tryz.prog 163 [astr p.Letters] h (Back h Via.enc (· = keyP p.Letters)):=fun h=>key_ok (Q:=(· = keyP p.Letters)) rfl h
   refine sg p1 ?_
   refine K4a _ (Jc hk) ?_
   try simp -implicitDefEqProofs (disch:=omega) only [push_cast,seval,p1,Via.enc]
   refine K4a _ (Jc hk) ?_
   replace H:=H.addNil 2 (some (47,0))
   have S2:Sub its1 (its1++[⟨anil,false,2,[],some (47,0)⟩]):=fun k it q=>by
    rw [List.getElem?_append_left (List.getElem?_eq_some_iff.1 q).1]; exact q
   have gn:(its1++[(⟨anil,false,2,[],some (47,0)⟩:Itm)])[its.length+1]? = some ⟨anil,false,2,[],some (47,0)⟩:=by rw [← l1]; simp
   have l2:(its1++[(⟨anil,false,2,[],some (47,0)⟩:Itm)]).length = its.length+2:=by simp [l1]
   generalize its1++[(⟨anil,false,2,[],some (47,0)⟩:Itm)] = its2 at H S2 gn l2
   have B2:=(hB.grow S1).grow S2
   have pos_lt:∀ (k:Nat) e',M[k]? = some e'→e'.pos < its.length:=fun k e' q=>(List.getElem?_eq_some_iff.1 (hB.hM k e' q).1).1
   have ei:(i+1).toNat = i.toNat+1:=by omega
   have spec:∀ (M':List BE) (l:List Zj),l = V9a ri (ps.take i.toNat) (keyP p.Letters)→M'.map BE.P = aset (M.map BE.P) (keyP p.Letters) (l++[p])→BSpec ri (ps.take (i+1).toNat) M':=by
    intro M' l hl he o
    rw [he,Kga,ei,List.take_add_one,hp]
    by_cases ho:o = keyP p.Letters
    ·subst ho
     rw [if_pos rfl,Option.getD_some,hl]
     simp [V9a,c2]
    ·rw [if_neg ho,hS o]
     simp [V9a,c2,Ne.symm ho]
   obtain ⟨jx,l,x23,m0,hjx,hlook,hfin⟩:∃ (jx:Nat) (l:List Zj) (x23:AV) (m0:Nat),its2[jx]? = some ⟨x23,false,2,l.map Zj.enc,some (47,m0)⟩ ∧
     (∀ h' its',AM.Own (h0.addR [(mb,mapB M)]) h' its'→Sub its2 its'→lookS ⟨1,24,[(Value.slice none 0 0)],.sl 47,none⟩ h' vvS (aget (M.map BE.L) (keyP p.Letters)) = x23) ∧
     (l.length≤1000000∧∀ (b' cap m:Nat) (its':List Itm),(∀ (k:Nat) it,k≠jx→its2[k]? = some it→its'[k]? = some it)→its'[jx]? = some ⟨.osl b' 2 0 (l.length+1),false,2,(l++[p]).map Zj.enc,some (47,m)⟩ →
      l.length+1≤cap→cap * 2≤m→∃ M',mapB M' = Yo ((aset (M.map BE.L) (keyP p.Letters) (b',l.length+1,cap)).map fun p=>(kvS p.1,vvS p.2))∧BInv M' its'∧BSpec ri (ps.take (i+1).toNat) M'):=by
    have hbl:(V9a ri (ps.take i.toNat) (keyP p.Letters)).length≤1000000:=by
     have h1:=List.length_filter_le (fun q=>ri q && decide (keyP q.Letters = keyP p.Letters)) (ps.take i.toNat)
     rw [List.length_take] at h1
     unfold V9a; omega
    have hb:=hS (keyP p.Letters)
    rcases find_b (keyP p.Letters) M with ⟨f1,f2,f3,f4⟩ | ⟨j,e,f1,f2,f3,f4⟩
    ·rw [f2,Option.getD_none] at hb
     refine ⟨its.length+1,[],anil,0,gn,fun h' its' _ _=>by rw [f1]; rfl,by simp,fun b' cap m its' hs hn hc hm=>⟨M++[⟨keyP p.Letters,b',its.length+1,[p],cap,m⟩],?_,?_,spec _ [] hb ?_⟩⟩
     ·rw [f3,mapB,List.map_append (f:=BE.L)]; rfl
     ·refine BInv.new (its:=its') ⟨fun k e' q=>⟨hs _ _ (by have:=pos_lt k e' q; omega) (B2.hM k e' q).1,(B2.hM k e' q).2⟩,B2.hd⟩ hn (fun k e' q=>by have:=pos_lt k e' q; dsimp only; omega) ⟨by simp,hc,hm⟩
     ·rw [f4,List.map_append]; rfl
    ·rw [f3,Option.getD_some] at hb
     obtain ⟨k1,k2,k3,k4⟩:=B2.hM j e f1
     refine ⟨e.pos,e.pats,.osl e.blk 2 0 e.pats.length,e.m,k1,fun h' its' HO hs=>?_,by rw [hb]; exact hbl,fun b' cap m its' hs hn hc hm=>⟨M.set j ⟨keyP p.Letters,b',e.pos,e.pats++[p],cap,m⟩,?_,?_,spec _ e.pats hb ?_⟩⟩
     ·rw [f2]
      obtain ⟨⟨tl,q1⟩,_⟩:=HO.getS e.pos (hs _ _ k1)
      exact rowAV_some q1 (by omega) k3 k4
     ·have:=(f4 ⟨keyP p.Letters,b',e.pos,e.pats++[p],cap,m⟩ rfl).1
      simp only [BE.L,List.length_append,List.length_singleton] at this
      rw [mapB,← this]
     ·exact BInv.set (its:=its2) B2 f1 rfl ⟨by simp,by simpa using hc,hm⟩ hs (by simpa [patsItm] using hn)
     ·exact ((f4 ⟨keyP p.Letters,b',e.pos,e.pats++[p],cap,m⟩ rfl).2).symm
   obtain ⟨hll,hfin⟩:=hfin
   have hjl:=(List.getElem?_eq_some_iff.1 hjx).1
   have fin:∀ (b4:Nat) (h5:Hp) (s'':St) (b' cap m:Nat),l.length+1≤cap→cap * 2≤m →
     Xf h0 [(mb,Yo ((aset (M.map BE.L) (keyP p.Letters) (b',l.length+1,cap)).map fun p=>(kvS p.1,vvS p.2)))] →
     AM.Own (h0.addR [(mb,Yo ((aset (M.map BE.L) (keyP p.Letters) (b',l.length+1,cap)).map fun p=>(kvS p.1,vvS p.2)))]) h5 (((its2++[(⟨.osl b4 2 0 1,false,2,([p]:List Zj).map Zj.enc,some (47,0)⟩:Itm)]).set jx ⟨.osl b' 2 0 (l.length+1),false,2,(l++[p]).map Zj.enc,some (47,0)⟩).set jx ⟨.osl b' 2 0 (l.length+1),false,2,(l++[p]).map Zj.enc,some (47,m)⟩) →
     Xg s'' ⟨(((((List.replicate 29 AV.any).set 3 (.val (.map (some mb)))).set 7 (.isl 2 (ps.map Zj.enc))).set 8 (aint ps.length)).set 9 (aint (i+1))),h5⟩→N s'':=by
    intro b4 h5 s'' b' cap m hc hm hD5 H5 hR
    obtain ⟨M',e1,hB',hS'⟩:=hfin b' cap m (((its2++[(⟨.osl b4 2 0 1,false,2,([p]:List Zj).map Zj.enc,some (47,0)⟩:Itm)]).set jx ⟨.osl b' 2 0 (l.length+1),false,2,(l++[p]).map Zj.enc,some (47,0)⟩).set jx ⟨.osl b' 2 0 (l.length+1),false,2,(l++[p]).map Zj.enc,some (47,m)⟩) (fun k it hk q=>by
      rw [List.getElem?_set_ne (Ne.symm hk),List.getElem?_set_ne (Ne.symm hk),List.getElem?_append_left (List.getElem?_eq_some_iff.1 q).1]; exact q) (List.getElem?_set_self (by simp; omega)) hc hm
    rw [← e1] at hD5 H5
    exact hN ⟨(i+1,M',_),h5⟩ s'' (by show ps.length - (i+1).toNat < ps.length - i.toNat; omega) ⟨⟨by omega,by omega,hB',hS'⟩,hD5,H5⟩ hR
   have S3:∀ it,Sub its2 (its2++[it]):=fun it k it' q=>by
    rw [List.getElem?_append_left (List.getElem?_eq_some_iff.1 q).1]; exact q
   have hjx3:∀ it,(its2++[it])[jx]? = some ⟨x23,false,2,l.map Zj.enc,some (47,m0)⟩:=fun it=>S3 it _ _ hjx
   have p2:=H.p _ (S2 _ _ g2)
   try simp -implicitDefEqProofs (disch:=omega) only [push_cast,seval,p2,Via.enc]
   refine ⟨?_,?_⟩
   ·refine look_sl (kv:=kvS) (vv:=vvS) Z8a Zob Znb tab_24 (H.rawAt hD 0 rfl) (keyP p.Letters) (by rfl) rfl ?_
    rw [hlook _ _ H (fun _ _ q=>q)]
    refine sg p2 ?_
    refine H.newL (E:=Zj.enc) ([p]:List Zj) rfl rfl (fun b4 h4 H=>?_)
    have g4:(its2++[(⟨.osl b4 2 0 1,false,2,([p]:List Zj).map Zj.enc,some (47,0)⟩:Itm)])[its.length+2]? = some ⟨.osl b4 2 0 1,false,2,([p]:List Zj).map Zj.enc,some (47,0)⟩:=by rw [← l2]; simp
    have p4:=H.src (e:=47) _ g4
    refine sg p4 ?_
    refine H.appL (E:=Zj.enc) jx ([p]:List Zj) (hjx3 _) rfl rfl (by decide) (by decide) (by simp; omega) (fun x1 h6 H=>?_)
    have g5:=Z0a (⟨x1,false,2,(l++[p]).map Zj.enc,some (47,0)⟩:Itm) (hjx3 (⟨.osl b4 2 0 1,false,2,([p]:List Zj).map Zj.enc,some (47,0)⟩:Itm))
    rcases H.cases jx g5 with ⟨_,e0⟩ | ⟨b5,tl,rfl,_⟩
    ·simp at e0
    have en:((l++[p]).map Zj.enc).length = l.length+1:=by simp
    rw [en] at H g5
    refine sg en ?_
    refine upd_sl (kv:=kvS) (vv:=vvS) Z8a Zob Znb H hD 0 (M.map BE.L) (keyP p.Letters) (fun cap m0=>(b5,l.length+1,cap)) rfl (by rfl) jx g5 (by omega) (by decide) (fun _ _=>rfl) (fun cap m0 h7 hc hm hD H=>?_)
    refine sg w2 ?_
    exact fin b4 h7 _ b5 cap m0 hc hm hD H (rtw)
   refine ⟨?_,?_⟩
   ·refine look_sl (kv:=kvS) (vv:=vvS) Z8a Zob Znb tab_24 (H.rawAt hD 0 rfl) (keyP p.Letters) (by rfl) rfl ?_
    rw [hlook _ _ H (fun _ _ q=>q)]
    refine sg p2 ?_
    refine H.newL (E:=Zj.enc) ([p]:List Zj) rfl rfl (fun b4 h4 H=>?_)
    have g4:(its2++[(⟨.osl b4 2 0 1,false,2,([p]:List Zj).map Zj.enc,some (47,0)⟩:Itm)])[its.length+2]? = some ⟨.osl b4 2 0 1,false,2,([p]:List Zj).map Zj.enc,some (47,0)⟩:=by rw [← l2]; simp
    have p4:=H.src (e:=47) _ g4
    refine sg p4 ?_
    refine H.appL (E:=Zj.enc) jx ([p]:List Zj) (hjx3 _) rfl rfl (by decide) (by decide) (by simp; omega) (fun x1 h6 H=>?_)
    have g5:=Z0a (⟨x1,false,2,(l++[p]).map Zj.enc,some (47,0)⟩:Itm) (hjx3 (⟨.osl b4 2 0 1,false,2,([p]:List Zj).map Zj.enc,some (47,0)⟩:Itm))
    rcases H.cases jx g5 with ⟨_,e0⟩ | ⟨b5,tl,rfl,_⟩
    ·simp at e0
    have en:((l++[p]).map Zj.enc).length = l.length+1:=by simp
    rw [en] at H g5
    refine sg en ?_
    refine upd_sl (kv:=kvS) (vv:=vvS) Z8a Zob Znb H hD 0 (M.map BE.L) (keyP p.Letters) (fun cap m0=>(b5,l.length+1,cap)) rfl (by rfl) jx g5 (by omega) (by decide) (fun _ _=>rfl) (fun cap m0 h7 hc hm hD H=>?_)
    refine sg w2 ?_
    exact fin b4 h7 _ b5 cap m0 hc hm hD H (rtw)
   ·refine H.newL (E:=Zj.enc) ([p]:List Zj) rfl rfl (fun b4 h4 H=>?_)
    have g4:(its2++[(⟨.osl b4 2 0 1,false,2,([p]:List Zj).map Zj.enc,some (47,0)⟩:Itm)])[its.length+2]? = some ⟨.osl b4 2 0 1,false,2,([p]:List Zj).map Zj.enc,some (47,0)⟩:=by rw [← l2]; simp
    have p4:=H.src (e:=47) _ g4
    refine sg p4 ?_
    refine look_sl (kv:=kvS) (vv:=vvS) Z8a Zob Znb tab_24 (H.rawAt hD 0 rfl) (keyP p.Letters) (by rfl) rfl ?_
    rw [hlook _ _ H (S3 _)]
    refine sg p4 ?_
    refine H.appL (E:=Zj.enc) jx ([p]:List Zj) (hjx3 _) rfl rfl (by decide) (by decide) (by simp; omega) (fun x1 h6 H=>?_)
    have g5:=Z0a (⟨x1,false,2,(l++[p]).map Zj.enc,some (47,0)⟩:Itm) (hjx3 (⟨.osl b4 2 0 1,false,2,([p]:List Zj).map Zj.enc,some (47,0)⟩:Itm))
    rcases H.cases jx g5 with ⟨_,e0⟩ | ⟨b5,tl,rfl,_⟩
    ·simp at e0
    have en:((l++[p]).map Zj.enc).length = l.length+1:=by simp
    rw [en] at H g5
    refine sg en ?_
    refine upd_sl (kv:=kvS) (vv:=vvS) Z8a Zob Znb H hD 0 (M.map BE.L) (keyP p.Letters) (fun cap m0=>(b5,l.length+1,cap)) rfl (by rfl) jx g5 (by omega) (by decide) (fun _ _=>rfl) (fun cap m0 h7 hc hm hD H=>?_)
    refine sg w2 ?_
    exact fin b4 h7 _ b5 cap m0 hc hm hD H (rtw)
  ·refine sg w2 ?_
   refine hN ⟨(i+1,M,its1),h3⟩ _ (by show ps.length - (i+1).toNat < ps.length - i.toNat; omega) ⟨⟨by omega,by omega,hB.grow S1,?_⟩,hD,H⟩ (rtw)
   intro o
   rw [hS o,show (i+1).toNat = i.toNat+1 by omega,List.take_add_one,hp]
   simp [V9a,c2]
 ·refine sg0 ?_
  refine Yx (.inl rfl) rfl ⟨mb,M,its,rfl,hD,H,hB,?_⟩
  rw [List.take_of_length_le (by omega)] at hS
  exact hS
end Go.Proofs.YtpkhmfedaaoalaaGreatDoor.Fg
