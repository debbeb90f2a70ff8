/- ItemsGlues: a part of its proof (packed by a program). -/
import Derived.Test.YtpkhmfedaaoalaaGreatDoorArr
import Derived.Test.YtpkhmfedaaoalaaGreatDoorPln
set_option linter.all false
namespace Go.Proofs.YtpkhmfedaaoalaaGreatDoor
open Go Go.Proofs.YtpkhmfedaaoalaaGreatDoor.AM
set_option maxRecDepth 100000
set_option maxHeartbeats 4000000
abbrev PMap:=List (Xb×Int)
def putL (m:PMap) (a b:List Int):PMap:=a.foldl (fun m x=>b.foldl (fun m y=>aset m ⟨x,y⟩ 1) m) m
def Vd:PMap:=putL (putL (putL (putL (putL (putL [] [0] [49,50,51,112,108,116,107]) [49,50,51,112,99,110,101,115,105] [46,101,115,110]) [105] [108]) [108] [105]) [116] [114]) [114] [99]
namespace Pr
def kvP (x:Xb):Value:=.agg #[.int .u8 x.in_,.int .u8 x.kind]
def vvP (x:Int):Value:=.int .i64 x
def mapP (m:PMap):Obj:=Yo (m.map fun p=>(kvP p.1,vvP p.2))
def outV (bo mb:Nat):Itm:=⟨.optr bo 1 0 0,true,1,[[.val (.map (some mb))]],some (153,1)⟩
theorem Vn {P:Program} {T:Tab} {σ:Type} {b:AC} {Q:AX→St→Prop} {s:St} (st:σ→St) (inv:σ→Prop) (μ:σ→Nat) (x0:σ) (h0:Xg s (st x0)) (hi:inv x0)
  (h:∀ x,inv x→∀ N:St→Prop,(∀ y s'',μ y < μ x→inv y→Xg s'' (st y)→N s'')→awp P T b (Y3a N Q) (st x)):awp P T (.loop b) Q s:=
 Z7 st inv μ x0 h0 hi fun x hx=>h x hx _ fun y s'' h1 h2 h3=>⟨y,h1,h2,h3⟩
abbrev n_tree_pairs_1:Nat:=149
noncomputable def Kja:AC:=
 (.seq (.reg [oM 9 0,oO 10 (.convert 9 57 (oT 9)),oN 11 10 57,oO 12 (.move (oC 0))]) (.block 0 (.loop (.seq (.reg [oO 13 (.binOp .lss 3 (oT 12) (oT 11) 3)]) (.seq (.cond (oT 13) .skip (.exit 0)) (.seq (.block 1 (.seq (.reg [oI 14 57 10 12,oL 15 5 14,oA 6 15]) (.seq (.reg [oM 16 1,oO 17 (.convert 9 57 (oT 16)),oN 18 17 57,oO 19 (.move (oC 0))]) (.block 2 (.loop (.seq (.reg [oO 20 (.binOp .lss 3 (oT 19) (oT 18) 3)]) (.seq (.cond (oT 20) .skip (.exit 2)) (.seq (.block 3 (.seq (.reg [oI 21 57 17 19,oL 22 5 21,oA 8 22]) (.reg [oL 23 153 2,oM 24 6,oM 25 8,oO 26 (.build 167 #[(0,(oT 24)),(1,(oT 25))]),oS (.mapUpdate 153 (oT 23) (oT 26) (oC 1))]))) (.reg [oO 27 (.binOp .add 3 (oT 19) (oC 1) 3),oM 19 27]))))))))) (.reg [oO 28 (.binOp .add 3 (oT 12) (oC 1) 3),oM 12 28])))))))
theorem Y7b {args:List AV} {h:Hp} {Q:AE→Hp→Prop} (H:awp Tryz.prog tab Kja (retQ tab [] Q) ⟨args++List.replicate (29 - args.length) .any,h⟩):Zo Tryz.prog 149 args h Q:=
 acalls_at tab_ok mixed Tryz.func149 (ann:=Yy) ⟨by kernel_rfl,by kernel_rfl,rfl,by kernel_rfl⟩ H
theorem put_ok {h0 h:Hp} {mb bo:Nat} {its:List Itm} {m:PMap} (hD:Xf h0 [(mb,mapP m)]) (H:AM.Own (h0.addR [(mb,mapP m)]) h its) {j:Nat} (hj:its[j]? = some (outV bo mb)) (A B:ByteArray) (hA:A.size≤1000) (hB:B.size≤1000) :
  Zo Tryz.prog n_tree_pairs_1 [astr A,astr B,.optr bo 1 0 0] h fun e h'=>e = .ret (.tup [])∧∃ its',Xf h0 [(mb,mapP (putL m (Zd A) (Zd B)))]∧AM.Own (h0.addR [(mb,mapP (putL m (Zd A) (Zd B)))]) h' its'∧its'[j]? = some (outV bo mb):=by
 refine Y7b ?_
 have lA:=Zt A
 have lB:=Zt B
 try simp (maxSteps:=4000000) -implicitDefEqProofs (disch:=omega) only [push_cast,seval,Kja]
 rw [Xma Zmb Ja tab_5]
 refine H.newL (E:=Xj) (Zd A) rfl lA (fun ba h1 H=>?_)
 have gA:(its++[(⟨.osl ba 1 0 A.size,false,1,(Zd A).map Xj,some (5,0)⟩:Itm)])[its.length]? = some ⟨.osl ba 1 0 A.size,false,1,(Zd A).map Xj,some (5,0)⟩:=by simp
 have gj:(its++[(⟨.osl ba 1 0 A.size,false,1,(Zd A).map Xj,some (5,0)⟩:Itm)])[j]? = some (outV bo mb):=by
  rw [List.getElem?_append_left (List.getElem?_eq_some_iff.1 hj).1]; exact hj
 generalize its++[(⟨.osl ba 1 0 A.size,false,1,(Zd A).map Xj,some (5,0)⟩:Itm)] = its1 at H gA gj
 try simp (maxSteps:=4000000) -implicitDefEqProofs (disch:=omega) only [push_cast,seval,H.lenE _ gA Ja]
 refine Vn (σ:=(Int×PMap×List Itm)×Hp)
  (fun ⟨⟨i,m',its⟩,h⟩=>⟨((((((List.replicate 29 AV.any).set 1 (astr B)).set 2 (.optr bo 1 0 0)).set 10 (.osl ba 1 0 A.size)).set 11 (aint ((Zd A).length:Int))).set 12 (aint i)),h⟩)
  (fun ⟨⟨i,m',its'⟩,h⟩=>(0≤i∧i.toNat≤A.size∧m' = putL m ((Zd A).take i.toNat) (Zd B)∧its'[its.length]? = some ⟨.osl ba 1 0 A.size,false,1,(Zd A).map Xj,some (5,0)⟩∧its'[j]? = some (outV bo mb))∧Xf h0 [(mb,mapP m')]∧AM.Own (h0.addR [(mb,mapP m')]) h its')
  (fun ⟨⟨i,m',its'⟩,h⟩=>A.size - i.toNat) ⟨(0,m,its1),h1⟩ (Xg.weak wkt (Hp.sub.refl _)) ⟨⟨Int.le_refl _,Nat.zero_le _,rfl,gA,gj⟩,hD,H⟩ ?_
 clear H hD gA gj hj
 rintro ⟨⟨i,m1,its1⟩,h⟩ ⟨⟨hi,hil,hm1,gA,gj⟩,hD,H⟩ N hN
 dsimp only at hm1 gA gj hD H ⊢
 try simp (maxSteps:=4000000) -implicitDefEqProofs (disch:=omega) only [push_cast,seval]
 rw [fork_cond]
 refine ⟨fun c1=>?_,fun c1=>?_⟩
 ·have hiA:i.toNat < (Zd A).length:=by omega
  obtain ⟨o1,qb,qc,qd,qe⟩:=H.rowX (k:=i.toNat) (r:=Xj (Zd A)[i.toNat]) _ gA (by rw [List.getElem?_map,List.getElem?_eq_getElem hiA]; rfl)
  try rw [List.length_map] at qe
  have qe:=eq_true qe
  have hz:=eq_true hi
  have w1:IntKind.i64.wrap (i+1) = i+1:=wrap_i64 _ (by omega)
  generalize hx:(Zd A)[i.toNat] = x at qd
  try simp (maxSteps:=4000000) -implicitDefEqProofs (disch:=omega) only [push_cast,seval,eq_true c1,hz,qb,qc,qd,qe]
  rw [Xma Zmb Ja tab_5]
  refine H.newL (E:=Xj) (Zd B) rfl lB (fun bb h2 H=>?_)
  have gB:(its1++[(⟨.osl bb 1 0 B.size,false,1,(Zd B).map Xj,some (5,0)⟩:Itm)])[its1.length]? = some ⟨.osl bb 1 0 B.size,false,1,(Zd B).map Xj,some (5,0)⟩:=by simp
  have gA2:(its1++[(⟨.osl bb 1 0 B.size,false,1,(Zd B).map Xj,some (5,0)⟩:Itm)])[its.length]? = some ⟨.osl ba 1 0 A.size,false,1,(Zd A).map Xj,some (5,0)⟩:=by
   rw [List.getElem?_append_left (List.getElem?_eq_some_iff.1 gA).1]; exact gA
  have gj2:(its1++[(⟨.osl bb 1 0 B.size,false,1,(Zd B).map Xj,some (5,0)⟩:Itm)])[j]? = some (outV bo mb):=by
   rw [List.getElem?_append_left (List.getElem?_eq_some_iff.1 gj).1]; exact gj
  generalize its1++[(⟨.osl bb 1 0 B.size,false,1,(Zd B).map Xj,some (5,0)⟩:Itm)] = its2 at H gB gA2 gj2
  try simp (maxSteps:=4000000) -implicitDefEqProofs (disch:=omega) only [push_cast,seval,H.lenE _ gB Ja]
  refine Vn (σ:=(Int×PMap)×Hp)
   (fun ⟨⟨k,m2⟩,h⟩=>⟨((((((((((List.replicate 29 AV.any).set 1 (astr B)).set 2 (.optr bo 1 0 0)).set 10 (.osl ba 1 0 A.size)).set 11 (aint ((Zd A).length:Int))).set 12 (aint i)).set 6 (.val (.int .u8 x))).set 17 (.osl bb 1 0 B.size)).set 18 (aint ((Zd B).length:Int))).set 19 (aint k)),h⟩)
   (fun ⟨⟨k,m2⟩,h⟩=>(0≤k∧k.toNat≤B.size∧m2 = ((Zd B).take k.toNat).foldl (fun m y=>aset m ⟨x,y⟩ 1) m1)∧Xf h0 [(mb,mapP m2)]∧AM.Own (h0.addR [(mb,mapP m2)]) h its2)
   (fun ⟨⟨k,m2⟩,h⟩=>B.size - k.toNat) ⟨(0,m1),h2⟩ (Xg.weak wkt (Hp.sub.refl _)) ⟨⟨Int.le_refl _,Nat.zero_le _,rfl⟩,hD,H⟩ ?_
  clear H hD
  rintro ⟨⟨k,m2⟩,h⟩ ⟨⟨hk,hkl,hm2⟩,hD,H⟩ N2 hN2
  dsimp only at hm2 hD H ⊢
  try simp (maxSteps:=4000000) -implicitDefEqProofs (disch:=omega) only [push_cast,seval]
  rw [fork_cond]
  refine ⟨fun c2=>?_,fun c2=>?_⟩
  ·have hkB:k.toNat < (Zd B).length:=by omega
   obtain ⟨o2,rb,rc,rd,re⟩:=H.rowX (k:=k.toNat) (r:=Xj (Zd B)[k.toNat]) _ gB (by rw [List.getElem?_map,List.getElem?_eq_getElem hkB]; rfl)
   try rw [List.length_map] at re
   have re:=eq_true re
   have hz2:=eq_true hk
   have w2:IntKind.i64.wrap (k+1) = k+1:=wrap_i64 _ (by omega)
   generalize hy:(Zd B)[k.toNat] = y at rd
   have pj:=H.p _ gj2
   try simp (maxSteps:=4000000) -implicitDefEqProofs (disch:=omega) only [push_cast,seval,eq_true c2,hz2,rb,rc,rd,re,pj]
   refine upd_of' (kv:=kvP) (vv:=vvP) X8a tab_153 tab_167 H hD 0 m2 (⟨x,y⟩:Xb) 1 rfl (by rfl) (by rfl) (fun h8 hD H=>?_)
   try simp (maxSteps:=4000000) -implicitDefEqProofs (disch:=omega) only [push_cast,seval,w2]
   refine hN2 ⟨(k+1,aset m2 ⟨x,y⟩ 1),h8⟩ _ (by show B.size - (k+1).toNat < B.size - k.toNat; omega) ⟨⟨by omega,by omega,?_⟩,hD,H⟩ (Xg.weak wkt (Hp.sub.refl _))
   rw [show (k+1).toNat = k.toNat+1 by omega,List.take_add_one,List.getElem?_eq_getElem hkB,Option.toList_some,List.foldl_append,← hm2,hy]
   rfl
  ·try simp (maxSteps:=4000000) -implicitDefEqProofs (disch:=omega) only [push_cast,seval,w1]
   rw [List.take_of_length_le (by omega)] at hm2
   refine hN ⟨(i+1,m2,its2),h⟩ _ (by show A.size - (i+1).toNat < A.size - i.toNat; omega) ⟨⟨by omega,by omega,?_,gA2,gj2⟩,hD,H⟩ (Xg.weak wkt (Hp.sub.refl _))
   rw [hm2,hm1,show (i+1).toNat = i.toNat+1 by omega,putL,putL,List.take_add_one,List.getElem?_eq_getElem hiA,Option.toList_some,List.foldl_append,hx]
   rfl
 ·try simp (maxSteps:=4000000) -implicitDefEqProofs (disch:=omega) only [push_cast,seval]
  rw [List.take_of_length_le (by omega)] at hm1
  subst hm1
  exact Yx (.inr rfl) rfl ⟨rfl,its1,hD,H,gj⟩
abbrev n_tree_pairs:Nat:=118
noncomputable def ac_tree_pairs:AC:=
 (.seq (.reg [oO 0 (.assign (.const (.map none)))]) (.seq (.reg [oO 3 (.makeMap 153 none),oO 1 (.alloc 153),oS (.store 153 (oT 1) (oT 3))]) (.seq (.reg [oO 4 (.makeFunc (Fn.func 149) #[] #[(oT 1)]),oA 2 4]) (.seq (.reg [oM 5 2,oO 6 (.call (.mk (.value (oT 5)) #[(.const (.string (ByteArray.mk #[0]))),(.const (.string (ByteArray.mk #[49,50,51,112,108,116,107])))] #[9,9]))]) (.seq (.reg [oM 7 2,oO 8 (.call (.mk (.value (oT 7)) #[(.const (.string (ByteArray.mk #[49,50,51,112,99,110,101,115,105]))),(.const (.string (ByteArray.mk #[46,101,115,110])))] #[9,9]))]) (.seq (.reg [oM 9 2,oO 10 (.call (.mk (.value (oT 9)) #[(.const (.string (ByteArray.mk #[105]))),(.const (.string (ByteArray.mk #[108])))] #[9,9]))]) (.seq (.reg [oM 11 2,oO 12 (.call (.mk (.value (oT 11)) #[(.const (.string (ByteArray.mk #[108]))),(.const (.string (ByteArray.mk #[105])))] #[9,9]))]) (.seq (.reg [oM 13 2,oO 14 (.call (.mk (.value (oT 13)) #[(.const (.string (ByteArray.mk #[116]))),(.const (.string (ByteArray.mk #[114])))] #[9,9]))]) (.seq (.reg [oM 15 2,oO 16 (.call (.mk (.value (oT 15)) #[(.const (.string (ByteArray.mk #[114]))),(.const (.string (ByteArray.mk #[99])))] #[9,9]))]) (.seq (.reg [oL 17 153 1,oA 0 17]) .ret))))))))))
theorem enter_tree_pairs {args:List AV} {h:Hp} {Q:AE→Hp→Prop} (H:awp Tryz.prog tab ac_tree_pairs (retQ tab [(ResultVar.tmp 0)] Q) ⟨args++List.replicate (18 - args.length) .any,h⟩):Zo Tryz.prog 118 args h Q:=
 acalls_at tab_ok mixed Tryz.func118 (ann:=Yy) ⟨by kernel_rfl,by kernel_rfl,rfl,by kernel_rfl⟩ H
theorem addRs {h0 h:Hp} {its:List Itm} {rs:List (Nat×Obj)} (H:AM.Own h0 h its):AM.Own (h0.addR rs) (h.addR rs) its:=by
 obtain ⟨h1,f,a1,a2,a3⟩:=H
 refine ⟨⟨h1.c,fun b o e=>?_⟩,f,a1,a2,a3⟩
 simp only [Hp.addR] at e ⊢
 split at e
 ·exact e
 ·exact h1.r b o e
end Pr
theorem pairs_ok {h0 h:Hp} {its:List Itm} (H:AM.Own h0 h its) :
  Zo Tryz.prog Pr.n_tree_pairs [] h fun e h'=>∃ b,e = .ret (.val (.map (some b)))∧Xf h0 [(b,Yo (Vd.map fun p=>(Value.agg #[Value.int .u8 p.1.in_,Value.int .u8 p.1.kind],Value.int .i64 p.2)))] ∧
   AM.Own (h0.addR [(b,Yo (Vd.map fun p=>(Value.agg #[Value.int .u8 p.1.in_,Value.int .u8 p.1.kind],Value.int .i64 p.2)))]) h' its:=by
 refine Pr.enter_tree_pairs ?_
 have HH:=AM.Own.nil h
 try simp (maxSteps:=4000000) -implicitDefEqProofs (disch:=omega) only [push_cast,seval,Pr.ac_tree_pairs]
 refine mk_of0 HH (fun mb h1 hD HH=>?_)
 try simp (maxSteps:=4000000) -implicitDefEqProofs (disch:=omega) only [push_cast,seval]
 refine HH.newR [.val (.map none)] rfl (fun bo h2 HH=>?_)
 try simp (maxSteps:=4000000) -implicitDefEqProofs (disch:=omega) only [push_cast,seval,HH.p 0 rfl]
 refine HH.stP 0 [.val (.map (some mb))] rfl rfl rfl rfl (Nat.le_of_ble_eq_true rfl) rfl (fun h3 HH=>?_)
 have gj:([(Pr.outV bo mb)]:List Itm)[0]? = some (Pr.outV bo mb):=rfl
 replace HH:AM.Own (h.addR [(mb,Pr.mapP [])]) h3 [Pr.outV bo mb]:=HH
 replace hD:Xf h [(mb,Pr.mapP [])]:=hD
 try simp (maxSteps:=4000000) -implicitDefEqProofs (disch:=omega) only [push_cast,seval]
 refine Z1 (Pr.put_ok hD HH gj (ByteArray.mk #[0]) (ByteArray.mk #[49,50,51,112,108,116,107]) (by decide) (by decide)) ?_
 rintro _ h4 ⟨rfl,its',hD,HH,gj⟩
 have pj:=HH.p _ gj
 try simp (maxSteps:=4000000) -implicitDefEqProofs (disch:=omega) only [push_cast,seval,pj]
 refine Z1 (Pr.put_ok hD HH gj (ByteArray.mk #[49,50,51,112,99,110,101,115,105]) (ByteArray.mk #[46,101,115,110]) (by decide) (by decide)) ?_
 rintro _ h4 ⟨rfl,its',hD,HH,gj⟩
 have pj:=HH.p _ gj
 try simp (maxSteps:=4000000) -implicitDefEqProofs (disch:=omega) only [push_cast,seval,pj]
 refine Z1 (Pr.put_ok hD HH gj (ByteArray.mk #[105]) (ByteArray.mk #[108]) (by decide) (by decide)) ?_
 rintro _ h4 ⟨rfl,its',hD,HH,gj⟩
 have pj:=HH.p _ gj
 try simp (maxSteps:=4000000) -implicitDefEqProofs (disch:=omega) only [push_cast,seval,pj]
 refine Z1 (Pr.put_ok hD HH gj (ByteArray.mk #[108]) (ByteArray.mk #[105]) (by decide) (by decide)) ?_
 rintro _ h4 ⟨rfl,its',hD,HH,gj⟩
 have pj:=HH.p _ gj
 try simp (maxSteps:=4000000) -implicitDefEqProofs (disch:=omega) only [push_cast,seval,pj]
 refine Z1 (Pr.put_ok hD HH gj (ByteArray.mk #[116]) (ByteArray.mk #[114]) (by decide) (by decide)) ?_
 rintro _ h4 ⟨rfl,its',hD,HH,gj⟩
 have pj:=HH.p _ gj
 try simp (maxSteps:=4000000) -implicitDefEqProofs (disch:=omega) only [push_cast,seval,pj]
 refine Z1 (Pr.put_ok hD HH gj (ByteArray.mk #[114]) (ByteArray.mk #[99]) (by decide) (by decide)) ?_
 rintro _ h4 ⟨rfl,its',hD,HH,gj⟩
 have pj:=HH.p _ gj
 try simp (maxSteps:=4000000) -implicitDefEqProofs (disch:=omega) only [push_cast,seval,pj]
 have hD0:Xf h0 [(mb,Pr.mapP Vd)]:=⟨fun p hp=>by
  cases e:h0.r p.1 with
  | none=>rfl
  | some o=>exact absurd (H.sub.r _ _ e) (by rw [hD.1 p hp]; simp),hD.2⟩
 have HJ:=(Pr.addRs (rs:=[(mb,Pr.mapP Vd)]) H).joined HH
 have H2:=HJ.take its.length
 rw [List.take_left] at H2
 exact Yx (.inl rfl) rfl ⟨mb,rfl,hD0,H2⟩
end Go.Proofs.YtpkhmfedaaoalaaGreatDoor
