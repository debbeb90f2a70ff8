/- ItemsGlues: a part of its proof (packed by a program). -/
import Derived.Test.YtpkhmfedaaoalaaGreatDoorAwk
import Derived.Test.YtpkhmfedaaoalaaGreatDoorWA0
import Derived.Test.YtpkhmfedaaoalaaGreatDoorWA5
import Derived.Test.YtpkhmfedaaoalaaGreatDoorWA6
set_option linter.all false
namespace Go.Proofs.YtpkhmfedaaoalaaGreatDoor
open Go Go.Proofs.YtpkhmfedaaoalaaGreatDoor.AM
set_option maxRecDepth 100000
set_option maxHeartbeats 4000000
abbrev Ytb:Nat:=119
def Jsa:Nat→Ann
 | 2=>{ pure:=[],plan:=(.op 0 (.op 1 (.op 2 (.op 3 (.op 4 (.op 5 (.op 6 (.op 7 (.op 8 (.op 9 (.op 10 .done))))))))))),ghost:=false,post:=false }
 | _=>{}
noncomputable def Vha:AC:=
 (.seq (.reg [oM 5 0,oO 6 (.nilCheck (oT 5)),oF 7 158 6 0,oL 8 156 7,oO 9 (oK 121 #[(oT 8)] #[156]),oO 10 (.nilCheck (oT 9)),oF 11 163 10 2,oL 12 3 11,oO 13 (.binOp .add 3 (oT 12) (oC 1) 3),oO 14 (.nilCheck (oT 9)),oF 15 163 14 2,oS (.store 3 (oT 15) (oT 13))]) (.seq (.draw [oM 16 0,oM 17 0,oO 18 (.nilCheck (oT 17)),oF 19 158 18 1,oL 20 51 19,oL 21 103 3,oO 22 (.buildSlice 51 1 #[(0,(oT 21))]),oO 23 (.call (.mk (.builtin .append) #[(oT 20),(oT 22)] #[51,51])),oO 24 (.nilCheck (oT 16)),oF 25 158 24 1,oS (.store 51 (oT 25) (oT 23))] (.op 0 (.op 1 (.op 2 (.op 3 (.op 4 (.op 5 (.op 6 (.op 7 (.op 8 (.op 9 (.op 10 .done)))))))))))) (.seq (.seq (.reg [oM 26 0,oO 27 (.nilCheck (oT 26)),oF 28 158 27 1,oL 29 51 28,oN 30 29 51,oO 31 (.binOp .gtr 3 (oT 30) (oC 2000) 3)]) (.cond (oT 31) (.seq (.reg [oO 4 (.assign (oC 4))]) .ret) .skip)) (.seq (.reg [oO 4 (.assign (oC 0))]) .ret))))
noncomputable def Yga:AC:=
 (.seq (.reg [oO 3 (.box 103 (oT 1)),oO 4 (.assign (oC 0))]) Vha)
theorem W7a:EN Yga [(ResultVar.tmp 4)] 32 119:=acE Tryz.func119 (ann:=Jsa)
def Yr.w (a0_:Za) (c0_0_:List Zc) (c0_1_:List Za) (c0_2_:List (Xb×Int)) (Q:Int→(List Zc)→(List Za)→Prop):Prop:=
 wcut (α:=(List Zc)) (fun k1=>
  if (c0_0_.length:Int) = 0 then
   k1 c0_0_
  else
   (I64 ((c0_0_.length:Int) - 1)) ∧
   (0≤(c0_0_.length:Int) - 1) ∧
   ∃ v1:Zc,c0_0_[((c0_0_.length:Int) - 1).toNat]? = some v1 ∧
   (I64 (v1.kids+1)) ∧
   k1 (c0_0_.set (((c0_0_.length:Int) - 1).toNat) (⟨v1.kind,v1.at_,v1.kids+1,v1.note,v1.past,v1.cols,v1.text⟩:Zc))) (fun a1=>
  ((c0_1_.length+([a0_]:List Za).length) * 40≤140737488355328) ∧
  if 2000 < ((c0_1_++([a0_]:List Za)).length:Int) then
   Q 4 a1 (c0_1_++([a0_]:List Za))
  else
   Q 0 a1 (c0_1_++([a0_]:List Za)))
theorem Yr.ok {a0_:Za} {c0_0_:List Zc} {c0_1_:List Za} {c0_2_:List (Xb×Int)} {Q:Int→(List Zc)→(List Za)→Prop} (hm:Yr.w a0_ c0_0_ c0_1_ c0_2_ Q) {h0 h:Hp} {b0_ mc0_2_:Nat} {x0_0_ x0_1_:AV} (H:AM.Own h0 h [⟨x0_0_,false,7,c0_0_.map Zc.enc,some (163,0)⟩,⟨x0_1_,false,4,c0_1_.map Za.enc,some (103,0)⟩,⟨(.optr b0_ 3 0 0),true,3,[[x0_0_,x0_1_,(.val (.map (some mc0_2_)))]],some (158,3)⟩]) (hmc0_2_:h0.r mc0_2_ = some (Yo (c0_2_.map fun p=>(Value.agg #[Value.int .u8 p.1.in_,Value.int .u8 p.1.kind],Value.int .i64 p.2)))):Zo Tryz.prog Ytb [(.optr b0_ 3 0 0),(.agg (Za.enc a0_))] h (fun e h'=>∃ (r:Int) (c0_0':List Zc) (c0_1':List Za) (x0_0_':AV) (x0_1_':AV),e = .ret ((fun r=>(aint r)) r)∧AM.Own h0 h' [⟨x0_0_',false,7,c0_0'.map Zc.enc,some (163,0)⟩,⟨x0_1_',false,4,c0_1'.map Za.enc,some (103,0)⟩,⟨(.optr b0_ 3 0 0),true,3,[[x0_0_',x0_1_',(.val (.map (some mc0_2_)))]],some (158,3)⟩]∧Q r c0_0' c0_1'):=by
 refine W7a ?_
 unfold Yr.w at hm
 try simp -implicitDefEqProofs (disch:=omega) only [push_cast,seval,Yga,H.p 2 rfl]
 refine H.newR (Za.enc a0_) rfl (fun b1 h1 H=>?_)
 refine sg (ai (H.p 2 rfl) (H.p 3 rfl)) ?_
 obtain ⟨k1,hm,hk1⟩:=Yn hm
 obtain ⟨M1,hM1⟩:∃ M:AM.St→Prop,M = (fun s'=>∃ (a1:List Zc) (x1:AV) (h2:Hp),Like s'.tm (((List.replicate 32 none).set 0 (some (.optr b0_ 3 0 0))).set 3 (some (.optr b1 4 0 0)))∧s'.h = h2∧AM.Own h0 h2 [⟨x1,false,7,a1.map Zc.enc,some (163,0)⟩,⟨x0_1_,false,4,c0_1_.map Za.enc,some (103,0)⟩,⟨(.optr b0_ 3 0 0),true,3,[[x1,x0_1_,(.val (.map (some mc0_2_)))]],some (158,3)⟩,⟨(.optr b1 4 0 0),true,4,[(Za.enc a0_)],some (103,4)⟩]∧k1 a1):=⟨_,rfl⟩
 refine Xe M1 ?_ ?_
 ·refine sg (ai (H.p 2 rfl) (H.p 3 rfl)) ?_
  refine Z1 (Vv ?_) (fun _ _ h=>h)
  try simp -implicitDefEqProofs (disch:=omega) only [push_cast,seval,Ka,H.lenE 0 rfl V1,H.p 2 rfl,H.p 3 rfl]
  refine fkc (fun c1=>?_) fun c1=>?_
  ·replace hm:=ifp hm c1
   refine sg (ai (eq_true c1) (ai (H.p 2 rfl) (H.p 3 rfl))) ?_
   refine H.newR [(.val (.int .u8 0)),(aint 0),(aint 0),(aint 0),(Zk false),(aint 0),(aint 0)] rfl (fun b2 h3 H=>?_)
   refine sg (ai (eq_true c1) (ai (H.p 2 rfl) (ai (H.p 3 rfl) (H.p 4 rfl)))) ?_
   refine Yx (.inl rfl) rfl ?_
   refine sg (ai (eq_true c1) (ai (H.p 2 rfl) (ai (H.p 3 rfl) (H.p 4 rfl)))) ?_
   refine H.stP 4 [(.val (.int .u8 0)),(aint 0),(aint 1),(aint 0),(Zk false),(aint 0),(aint 0)] rfl rfl rfl rfl (Nat.le_of_ble_eq_true rfl) rfl (fun h4 H=>?_)
   refine sg (ai (eq_true c1) (ai (H.p 2 rfl) (ai (H.p 3 rfl) (H.p 4 rfl)))) ?_
   replace H:=H.pm [0,1,2,3]
   subst hM1
   exact ⟨c0_0_,x0_0_,h4,lkt,rfl,H,hm⟩
  replace hm:=ifn hm c1
  obtain ⟨w1,hm⟩:=hm
  refine sg (ai (eq_false c1) (ai (wrap_i64 _ w1) (ai (H.lenE 0 rfl V1) (ai (H.p 2 rfl) (H.p 3 rfl))))) ?_
  obtain ⟨z1,v1,i1,hm⟩:=hm
  obtain ⟨b3,o1,rfl,qb,qc,qd,qe⟩:=H.row (k:=((c0_0_.length:Int) - 1).toNat) (r:=Zc.enc v1) 0 rfl (gmp i1)
  try rw [List.length_map] at qe
  have q1:=ai qb (ai qc (ai qd (eq_true qe)))
  rw [List.length_map] at H
  refine sg (ai (eq_false c1) (ai (wrap_i64 _ w1) (ai (eq_true z1) (ai q1 (ai (H.p 2 rfl) (H.p 3 rfl)))))) ?_
  refine Yx (.inl rfl) rfl ?_
  obtain ⟨w2,hm⟩:=hm
  have F1:=ai (eq_false c1) (ai (wrap_i64 _ w1) (ai (eq_true z1) (wrap_i64 _ w2)))
  refine sg (ai F1 (ai q1 (ai (H.p 2 rfl) (H.p 3 rfl)))) ?_
  have i2:=Z0a (⟨v1.kind,v1.at_,v1.kids+1,v1.note,v1.past,v1.cols,v1.text⟩:Zc) i1
  refine H.stL 0 (⟨v1.kind,v1.at_,v1.kids+1,v1.note,v1.past,v1.cols,v1.text⟩:Zc) rfl i1 rfl rfl rfl (Nat.le_of_ble_eq_true rfl) rfl (fun h5 H=>?_)
  refine sg (ai F1 (ai q1 (ai (H.p 2 rfl) (H.p 3 rfl)))) ?_
  replace H:=H.pm [0,1,2,3]
  subst hM1
  exact ⟨c0_0_.set (((c0_0_.length:Int) - 1).toNat) (⟨v1.kind,v1.at_,v1.kids+1,v1.note,v1.past,v1.cols,v1.text⟩:Zc),(.osl b3 7 0 c0_0_.length),h5,lkt,rfl,H,hm⟩
 subst hM1
 rintro ⟨tm,h2⟩ ⟨a1,x1,_,hL,rfl,H,hm⟩
 dsimp only at hL H
 obtain ⟨D,rfl⟩:=hL.fill 0
 replace hm:=hk1 _ hm
 refine sg (ai (H.p 2 rfl) (H.p 3 rfl)) ?_
 refine H.newL (E:=Za.enc) ([a0_]:List Za) rfl rfl (fun b4 h6 H=>?_)
 refine sg (ai (H.src (e:=103) 4 rfl) (ai (H.p 2 rfl) (H.p 3 rfl))) ?_
 obtain ⟨w3,hm⟩:=hm
 refine H.appL (E:=Za.enc) 1 ([a0_]:List Za) rfl rfl rfl (by decide) (by decide) w3 (fun x2 h7 H=>?_)
 refine sg (ai (H.p 2 rfl) (H.p 3 rfl)) ?_
 refine H.stP 2 [x1,x2,(.val (.map (some mc0_2_)))] rfl (H.ok 1 rfl).1 (H.ok 1 rfl).2 rfl (Nat.le_of_ble_eq_true rfl) rfl (fun h8 H=>?_)
 refine sg (ai (H.lenE 1 rfl tab_51) (ai (H.p 2 rfl) (H.p 3 rfl))) ?_
 refine fkc (fun c2=>?_) fun c2=>?_
 ·replace hm:=ifp hm c2
  refine sg (ai (eq_true c2) (ai (H.p 2 rfl) (H.p 3 rfl))) ?_
  replace H:=H.pm [0,1,2]
  exact Ym (.inl rfl) (x:=(aint 4)) rfl (Zf.refl _ _) ⟨4,a1,c0_1_++([a0_]:List Za),x1,x2,rfl,H,hm⟩
 replace hm:=ifn hm c2
 refine sg (ai (eq_false c2) (ai (H.p 2 rfl) (H.p 3 rfl))) ?_
 replace H:=H.pm [0,1,2]
 exact Ym (.inl rfl) (x:=(aint 0)) rfl (Zf.refl _ _) ⟨0,a1,c0_1_++([a0_]:List Za),x1,x2,rfl,H,hm⟩
abbrev Jfa:Nat:=75
def Vca:Nat→Ann
 | 12=>{ pure:=[],plan:=(.op 0 (.op 1 (.op 2 (.op 3 (.op 4 (.op 5 (.op 6 (.op 7 (.op 8 (.op 9 (.op 10 .done))))))))))),ghost:=false,post:=false }
 | _=>{}
noncomputable def Xpa:AC:=
 (.seq (.seq (.reg [oM 39 0,oO 40 (.nilCheck (oT 39)),oF 41 158 40 0,oL 42 156 41,oO 43 (.call (.mk (.value (.func 120)) #[(oT 42),(.const (.string (ByteArray.mk #[110])))] #[156,9])),oA 9 43]) (.seq (.reg [oM 44 9,oO 45 (.binOp .neq 160 (oT 44) (.const (.pointer none)) 160)]) (.cond (oT 45) (.seq (.draw [oM 46 9,oO 47 (.nilCheck (oT 46)),oF 48 163 47 6,oL 49 3 48,oF 50 100 3 2,oL 51 9 50,oN 52 51 9,oO 53 (.binOp .add 3 (oT 49) (oT 52) 3),oO 54 (.nilCheck (oT 46)),oF 55 163 54 6,oS (.store 3 (oT 55) (oT 53))] (.op 0 (.op 1 (.op 2 (.op 3 (.op 4 (.op 5 (.op 6 (.op 7 (.op 8 (.op 9 (.op 10 .done)))))))))))) (.seq (.reg [oM 56 9,oO 57 (.nilCheck (oT 56)),oF 58 163 57 6,oL 59 3 58,oO 60 (.binOp .gtr 3 (oT 59) (oC 60) 3)]) (.cond (oT 60) (.reg [oO 8 (.assign (oC 4))]) .skip))) .skip))) (.seq (.reg [oF 61 100 3 3,oL 62 3 61,oM 63 8,oA 4 62,oA 5 63]) .ret))
noncomputable def Zga:AC:=
 (.seq (.reg [oO 3 (.box 100 (oT 1)),oO 4 (.assign (oC 0)),oO 5 (.assign (oC 0))]) (.seq (.seq (.reg [oM 10 0,oO 11 (oK 79 #[(oT 10),(oD 46)] #[114,5]),oO 12 (.unOp .not 4 (oT 11))]) (.cond (oT 12) (.seq (.seq (.reg [oF 13 100 3 2,oL 14 9 13,oO 15 (.convert 9 57 (oT 14)),oN 16 15 57,oO 17 (.move (oC 0))]) (.block 0 (.loop (.seq (.reg [oO 18 (.binOp .lss 3 (oT 17) (oT 16) 3)]) (.seq (.cond (oT 18) .skip (.exit 0)) (.seq (.block 1 (.seq (.reg [oM 19 17,oI 20 57 15 17,oL 21 5 20,oA 6 19,oA 7 21]) (.seq (.reg [oM 22 7,oO 23 (oK 117 #[(oT 22)] #[5]),oO 24 (.unOp .not 4 (oT 23))]) (.cond (oT 24) (.seq (.reg [oF 25 100 3 3,oL 26 3 25,oM 27 6,oO 28 (.binOp .add 3 (oT 26) (oT 27) 3),oA 4 28,oO 5 (.assign (oC 2))]) .ret) .skip)))) (.reg [oO 29 (.binOp .add 3 (oT 17) (oC 1) 3),oM 17 29]))))))) (.seq (.reg [oF 30 100 3 3,oL 31 3 30,oA 4 31,oO 5 (.assign (oC 0))]) .ret)) .skip)) (.seq (.reg [oM 32 0,oF 33 100 3 2,oL 34 9 33,oF 35 100 3 3,oL 36 3 35,oO 37 (.build 103 #[(0,(oD 46)),(1,(oT 34)),(2,(oT 36)),(3,(oC 1))]),oO 38 (oK 119 #[(oT 32),(oT 37)] #[114,103]),oA 8 38]) Xpa)))
theorem Xea:EN Zga [(ResultVar.tmp 4),(ResultVar.tmp 5)] 64 75:=acE Tryz.func75 (ann:=Vca)
def Y0.w (a0_:Zm) (c0_0_:List Zc) (c0_1_:List Za) (c0_2_:List (Xb×Int)) (Q:(Int×Int)→(List Zc)→(List Za)→Prop):Prop:=
 Yi.w 46 c0_0_ c0_1_ c0_2_ (fun r1 v1 v2=>
  if (!r1) = true then
   X2 (σ:=Int) (fun a1 next1=>
    if a1 < ((Zd a0_.Text).length:Int) then
     (0≤a1) ∧
     ∃ v3:Int,(Zd a0_.Text)[a1.toNat]? = some v3 ∧
     Wh.w v3 (fun r2=>
      if (!r2) = true then
       (I64 (a0_.At+a1)) ∧
       Q (a0_.At+a1,2) v1 v2
      else
       (I64 (a1+1)) ∧
       next1 (a1+1))
    else
     Q (a0_.At,0) v1 v2) 0
  else
   Yr.w (⟨46,a0_.Text,a0_.At,1⟩:Za) v1 v2 c0_2_ (fun r3 v4 v5=>
    wcut (α:=(List Zc)×Int) (fun k1=>
     (I64 ((v4.length:Int) - 1)) ∧
     X2 (σ:=(List Zc)×Int) (fun ⟨a4,a5⟩ next2=>
      if 0≤a5 then
       (0≤a5) ∧
       ∃ v6:Zc,a4[a5.toNat]? = some v6 ∧
       strings_IndexByte.w (ByteArray.mk #[110]) v6.kind (fun r4=>
        if 0≤r4 then
         (I64 (v6.text+(a0_.Text.size:Int))) ∧
         if 60 < v6.text+(a0_.Text.size:Int) then
          k1 (a4.set a5.toNat (⟨v6.kind,v6.at_,v6.kids,v6.note,v6.past,v6.cols,v6.text+(a0_.Text.size:Int)⟩:Zc),4)
         else
          k1 (a4.set a5.toNat (⟨v6.kind,v6.at_,v6.kids,v6.note,v6.past,v6.cols,v6.text+(a0_.Text.size:Int)⟩:Zc),r3)
        else
         (I64 (a5 - 1)) ∧
         next2 (a4,a5 - 1))
      else
       k1 (a4,r3)) (v4,(v4.length:Int) - 1)) (fun ⟨a2,a3⟩=>
     Q (a0_.At,a3) a2 v5)))
theorem Y0.ok {a0_:Zm} {c0_0_:List Zc} {c0_1_:List Za} {c0_2_:List (Xb×Int)} {Q:(Int×Int)→(List Zc)→(List Za)→Prop} (hm:Y0.w a0_ c0_0_ c0_1_ c0_2_ Q) {h0 h:Hp} {b0_ mc0_2_:Nat} {x0_0_ x0_1_:AV} (H:AM.Own h0 h [⟨x0_0_,false,7,c0_0_.map Zc.enc,some (163,0)⟩,⟨x0_1_,false,4,c0_1_.map Za.enc,some (103,0)⟩,⟨(.optr b0_ 3 0 0),true,3,[[x0_0_,x0_1_,(.val (.map (some mc0_2_)))]],some (158,3)⟩]) (hmc0_2_:h0.r mc0_2_ = some (Yo (c0_2_.map fun p=>(Value.agg #[Value.int .u8 p.1.in_,Value.int .u8 p.1.kind],Value.int .i64 p.2)))):Zo Tryz.prog Jfa [(.optr b0_ 3 0 0),(.agg (Zm.enc a0_))] h (fun e h'=>∃ (r:Int×Int) (c0_0':List Zc) (c0_1':List Za) (x0_0_':AV) (x0_1_':AV),e = .ret ((fun r=>.tup [(aint r.1),(aint r.2)]) r)∧AM.Own h0 h' [⟨x0_0_',false,7,c0_0'.map Zc.enc,some (163,0)⟩,⟨x0_1_',false,4,c0_1'.map Za.enc,some (103,0)⟩,⟨(.optr b0_ 3 0 0),true,3,[[x0_0_',x0_1_',(.val (.map (some mc0_2_)))]],some (158,3)⟩]∧Q r c0_0' c0_1'):=by
 refine Xea ?_
 unfold Y0.w at hm
 try simp -implicitDefEqProofs (disch:=omega) only [push_cast,seval,Zga,H.p 2 rfl]
 refine H.newR (Zm.enc a0_) rfl (fun b1 h1 H=>?_)
 refine sg (ai (H.p 2 rfl) (H.p 3 rfl)) ?_
 obtain ⟨h2,HF1,hB1⟩:=H.frameS [0,1,2] (by decide)
 refine Z1 (Yi.ok hm HF1 (hB1.2.r _ _ hmc0_2_)) ?_
 rintro _ h3 ⟨r1,v1,v2,x1,x2,rfl,H',hm⟩
 replace H:=hB1.1 _ _ rfl H'
 refine sg (ai (H.p 2 rfl) (H.p 3 rfl)) ?_
 rw [Zw]
 refine ⟨fun c1=>?_,fun c1=>?_⟩
 ·replace hm:=ifp hm c1
  refine sg (ai c1 (ai (H.p 2 rfl) (H.p 3 rfl))) ?_
  rw [Xma Zmb Ja tab_5]
  refine H.newL (E:=Xj) (Zd a0_.Text) rfl (Zt _) (fun b2 h4 H=>?_)
  refine sg (ai c1 (ai (H.lenE 4 rfl Ja) (ai (H.p 2 rfl) (H.p 3 rfl)))) ?_
  obtain ⟨inv1,mu1,hi1,hs2⟩:=hm
  replace H:=H.pm [0,1,2,3,4]
  refine Z7 (σ:=Int×Hp) (fun ⟨a1,h5⟩=>⟨((((List.replicate 64 AV.any).set 3 (.optr b1 4 0 0)).set 15 (.osl b2 1 0 a0_.Text.size)).set 16 (aint ((Zd a0_.Text).length:Int))).set 17 (aint a1),h5⟩) (fun ⟨a1,h5⟩=>inv1 a1∧AM.Own h0 h5 [⟨x1,false,7,v1.map Zc.enc,some (163,0)⟩,⟨x2,false,4,v2.map Za.enc,some (103,0)⟩,⟨(.optr b0_ 3 0 0),true,3,[[x1,x2,(.val (.map (some mc0_2_)))]],some (158,3)⟩,⟨(.optr b1 4 0 0),true,4,[(Zm.enc a0_)],some (100,4)⟩,⟨(.osl b2 1 0 a0_.Text.size),false,1,(Zd a0_.Text).map Xj,some (5,0)⟩]) (fun ⟨a1,h5⟩=>mu1 a1) ⟨0,h4⟩ (rtw) ⟨hi1,H⟩ ?_
  rintro ⟨a1,h5⟩ ⟨hi1,H⟩
  have hm:=hs2 _ hi1
  dsimp only at hm H ⊢
  refine sg (ai c1 (ai (H.p 2 rfl) (H.p 3 rfl))) ?_
  refine fkc (fun c2=>?_) fun c2=>?_
  ·replace hm:=ifp hm c2
   refine sg (ai c1 (ai (eq_true c2) (ai (H.p 2 rfl) (H.p 3 rfl)))) ?_
   obtain ⟨z1,v3,i1,hm⟩:=hm
   obtain ⟨o1,qb,qc,qd,qe⟩:=H.rowX (k:=a1.toNat) (r:=Xj v3) 4 rfl (gmp i1)
   try rw [List.length_map] at qe
   have q1:=ai qb (ai qc (ai qd (eq_true qe)))
   refine sg (ai c1 (ai (eq_true c2) (ai (eq_true z1) (ai q1 (ai (H.p 2 rfl) (H.p 3 rfl)))))) ?_
   refine Zn (fun h=>Wh.ok hm h) (fun r2 hm=>?_)
   refine sg (ai c1 (ai (eq_true c2) (ai (eq_true z1) (ai q1 (ai (H.p 2 rfl) (H.p 3 rfl)))))) ?_
   rw [Zw]
   refine ⟨fun c3=>?_,fun c3=>?_⟩
   ·replace hm:=ifp hm c3
    obtain ⟨w1,hm⟩:=hm
    have F1:=ai c1 (ai (eq_true c2) (ai (eq_true z1) (ai c3 (wrap_i64 _ w1))))
    refine sg (ai F1 (ai q1 (ai (H.p 2 rfl) (H.p 3 rfl)))) ?_
    replace H:=H.pm [0,1,2]
    exact Ym (.inl rfl) (x:=(.tup [(aint (a0_.At+a1)),(aint 2)])) rfl (Zf.refl _ _) ⟨(a0_.At+a1,2),v1,v2,x1,x2,rfl,H,hm⟩
   replace hm:=ifn hm (by rw [c3]; exact Bool.false_ne_true)
   obtain ⟨w2,hm⟩:=hm
   have F2:=ai c1 (ai (eq_true c2) (ai (eq_true z1) (ai c3 (wrap_i64 _ w2))))
   refine sg (ai F2 (ai q1 (ai (H.p 2 rfl) (H.p 3 rfl)))) ?_
   replace H:=H.pm [0,1,2,3,4]
   exact ⟨⟨a1+1,h5⟩,hm.2,⟨hm.1,H⟩,rtw⟩
  replace hm:=ifn hm c2
  refine sg (ai c1 (ai (eq_false c2) (ai (H.p 2 rfl) (H.p 3 rfl)))) ?_
  replace H:=H.pm [0,1,2]
  exact Ym (.inl rfl) (x:=(.tup [(aint a0_.At),(aint 0)])) rfl (Zf.refl _ _) ⟨(a0_.At,0),v1,v2,x1,x2,rfl,H,hm⟩
 replace hm:=ifn hm (by rw [c1]; exact Bool.false_ne_true)
 refine sg (ai c1 (ai (H.p 2 rfl) (H.p 3 rfl))) ?_
 obtain ⟨h6,HF2,hB2⟩:=H.frameS [0,1,2] (by decide)
 refine Z1 (Yr.ok hm HF2 (hB2.2.r _ _ hmc0_2_)) ?_
 rintro _ h7 ⟨r3,v4,v5,x3,x4,rfl,H',hm⟩
 replace H:=hB2.1 _ _ rfl H'
 refine sg (ai c1 (ai (H.p 2 rfl) (H.p 3 rfl))) ?_
 obtain ⟨k1,hm,hk1⟩:=Yn hm
 obtain ⟨M1,hM1⟩:∃ M:AM.St→Prop,M = (fun s'=>∃ (a2:List Zc) (a3:Int) (x5:AV) (h8:Hp),Like s'.tm (((List.replicate 64 none).set 3 (some (.optr b1 4 0 0))).set 8 (some (aint a3)))∧s'.h = h8∧AM.Own h0 h8 [⟨x5,false,7,a2.map Zc.enc,some (163,0)⟩,⟨x4,false,4,v5.map Za.enc,some (103,0)⟩,⟨(.optr b0_ 3 0 0),true,3,[[x5,x4,(.val (.map (some mc0_2_)))]],some (158,3)⟩,⟨(.optr b1 4 0 0),true,4,[(Zm.enc a0_)],some (100,4)⟩]∧k1 (a2,a3)):=⟨_,rfl⟩
 refine Xe M1 ?_ ?_
 ·refine sg (ai c1 (ai (H.p 2 rfl) (H.p 3 rfl))) ?_
  refine Z1 (Xy ?_) (fun _ _ h=>h)
  obtain ⟨w3,hm⟩:=hm
  try simp -implicitDefEqProofs (disch:=omega) only [push_cast,seval,Xz,c1,wrap_i64 _ w3,H.lenE 0 rfl V1,H.p 2 rfl,H.p 3 rfl]
  obtain ⟨inv2,mu2,hi2,hs4⟩:=hm
  replace H:=H.pm [0,1,2,3]
  refine Z7 (σ:=((List Zc)×Int)×AV×Hp) (fun ⟨⟨a4,a5⟩,x6,h9⟩=>⟨(((List.replicate 24 AV.any).set 0 x6).set 1 (astr (ByteArray.mk #[110]))).set 5 (aint a5),h9⟩) (fun ⟨⟨a4,a5⟩,x6,h9⟩=>inv2 (a4,a5)∧AM.Own h0 h9 [⟨x6,false,7,a4.map Zc.enc,some (163,0)⟩,⟨x4,false,4,v5.map Za.enc,some (103,0)⟩,⟨(.optr b0_ 3 0 0),true,3,[[x6,x4,(.val (.map (some mc0_2_)))]],some (158,3)⟩,⟨(.optr b1 4 0 0),true,4,[(Zm.enc a0_)],some (100,4)⟩]) (fun ⟨⟨a4,a5⟩,x6,h9⟩=>mu2 (a4,a5)) ⟨(v4,(v4.length:Int) - 1),x3,h7⟩ (rtw) ⟨hi2,H⟩ ?_
  rintro ⟨⟨a4,a5⟩,x6,h9⟩ ⟨hi2,H⟩
  have hm:=hs4 _ hi2
  dsimp only at hm H ⊢
  refine sg (ai c1 (ai (wrap_i64 _ w3) (ai (H.p 2 rfl) (H.p 3 rfl)))) ?_
  refine fkc (fun c4=>?_) fun c4=>?_
  ·replace hm:=ifp hm c4
   refine sg (ai c1 (ai (wrap_i64 _ w3) (ai (eq_true c4) (ai (H.p 2 rfl) (H.p 3 rfl))))) ?_
   obtain ⟨z2,v6,i2,hm⟩:=hm
   obtain ⟨b4,o2,rfl,qb,qc,qd,qe⟩:=H.row (k:=a5.toNat) (r:=Zc.enc v6) 0 rfl (gmp i2)
   try rw [List.length_map] at qe
   have q5:=ai qb (ai qc (ai qd (eq_true qe)))
   rw [List.length_map] at H
   have F3:=ai c1 (ai (wrap_i64 _ w3) (ai (eq_true c4) (eq_true z2)))
   refine sg (ai F3 (ai q5 (ai (H.p 2 rfl) (H.p 3 rfl)))) ?_
   refine Zn (fun h=>strings_IndexByte.ok hm h) (fun r4 hm=>?_)
   refine sg (ai F3 (ai q5 (ai (H.p 2 rfl) (H.p 3 rfl)))) ?_
   refine fkc (fun c5=>?_) fun c5=>?_
   ·replace hm:=ifp hm c5
    refine sg (ai F3 (ai q5 (ai (eq_true c5) (ai (H.p 2 rfl) (H.p 3 rfl))))) ?_
    refine Yx (.inl rfl) rfl ?_
    obtain ⟨w4,hm⟩:=hm
    refine sg (ai F3 (ai q5 (ai (eq_true c5) (ai (wrap_i64 _ w4) (ai (H.p 2 rfl) (H.p 3 rfl)))))) ?_
    have i4:=Z0a (⟨v6.kind,v6.at_,v6.kids,v6.note,v6.past,v6.cols,v6.text+(a0_.Text.size:Int)⟩:Zc) i2
    refine H.stL 0 (⟨v6.kind,v6.at_,v6.kids,v6.note,v6.past,v6.cols,v6.text+(a0_.Text.size:Int)⟩:Zc) rfl i2 rfl rfl rfl (Nat.le_of_ble_eq_true rfl) rfl (fun h10 H=>?_)
    obtain ⟨o3,qb,qc,qd,qe⟩:=H.rowX (k:=a5.toNat) (r:=Zc.enc (⟨v6.kind,v6.at_,v6.kids,v6.note,v6.past,v6.cols,v6.text+(a0_.Text.size:Int)⟩:Zc)) 0 rfl (gmp i4)
    try rw [List.length_map] at qe
    have q9:=ai qb (ai qc (ai qd (eq_true qe)))
    refine sg (ai F3 (ai q5 (ai (eq_true c5) (ai (wrap_i64 _ w4) (ai q9 (ai (H.p 2 rfl) (H.p 3 rfl))))))) ?_
    refine fkc (fun c6=>?_) fun c6=>?_
    ·replace hm:=ifp hm c6
     have F4:=ai F3 (ai (eq_true c5) (ai (wrap_i64 _ w4) (eq_true c6)))
     refine sg (ai F4 (ai q5 (ai q9 (ai (H.p 2 rfl) (H.p 3 rfl))))) ?_
     replace H:=H.pm [0,1,2,3]
     subst hM1
     exact ⟨a4.set a5.toNat (⟨v6.kind,v6.at_,v6.kids,v6.note,v6.past,v6.cols,v6.text+(a0_.Text.size:Int)⟩:Zc),4,(.osl b4 7 0 a4.length),h10,lkt,rfl,H,hm⟩
    replace hm:=ifn hm c6
    have F5:=ai F3 (ai (eq_true c5) (ai (wrap_i64 _ w4) (eq_false c6)))
    refine sg (ai F5 (ai q5 (ai q9 (ai (H.p 2 rfl) (H.p 3 rfl))))) ?_
    replace H:=H.pm [0,1,2,3]
    subst hM1
    exact ⟨a4.set a5.toNat (⟨v6.kind,v6.at_,v6.kids,v6.note,v6.past,v6.cols,v6.text+(a0_.Text.size:Int)⟩:Zc),r3,(.osl b4 7 0 a4.length),h10,lkt,rfl,H,hm⟩
   replace hm:=ifn hm c5
   obtain ⟨w5,hm⟩:=hm
   refine sg (ai F3 (ai q5 (ai (eq_false c5) (ai (wrap_i64 _ w5) (ai (H.p 2 rfl) (H.p 3 rfl)))))) ?_
   replace H:=H.pm [0,1,2,3]
   exact ⟨⟨(a4,a5 - 1),(.osl b4 7 0 a4.length),h9⟩,hm.2,⟨hm.1,H⟩,rtw⟩
  replace hm:=ifn hm c4
  refine sg (ai c1 (ai (wrap_i64 _ w3) (ai (eq_false c4) (ai (H.p 2 rfl) (H.p 3 rfl))))) ?_
  refine Yx (.inl rfl) rfl ?_
  refine sg (ai c1 (ai (wrap_i64 _ w3) (ai (eq_false c4) (ai (H.p 2 rfl) (H.p 3 rfl))))) ?_
  replace H:=H.pm [0,1,2,3]
  subst hM1
  exact ⟨a4,r3,x6,h9,lkt,rfl,H,hm⟩
 subst hM1
 rintro ⟨tm,h8⟩ ⟨a2,a3,x5,_,hL,rfl,H,hm⟩
 dsimp only at hL H
 obtain ⟨D,rfl⟩:=hL.fill 0
 replace hm:=hk1 _ hm
 refine sg (ai c1 (ai (H.p 2 rfl) (H.p 3 rfl))) ?_
 replace H:=H.pm [0,1,2]
 exact Ym (.inl rfl) (x:=(.tup [(aint a0_.At),(aint a3)])) rfl (Zf.refl _ _) ⟨(a0_.At,a3),a2,v5,x5,x4,rfl,H,hm⟩
abbrev Jha:Nat:=76
def Vea:Nat→Ann
 | 9=>{ pure:=[],plan:=(.op 0 (.op 1 (.op 2 (.op 3 (.op 4 (.op 5 (.op 6 (.op 7 (.op 8 (.op 9 (.op 10 (.op 11 (.op 12 (.op 13 (.op 14 (.op 15 (.op 16 (.op 17 (.op 18 .done))))))))))))))))))),ghost:=false,post:=false }
 | _=>{}
noncomputable def Xqa:AC:=
 (.seq (.seq (.reg [oM 63 0,oO 64 (.nilCheck (oT 63)),oF 65 158 64 0,oL 66 156 65,oN 67 66 156,oO 68 (.binOp .gtr 3 (oT 67) (oC 32) 3),oM 69 68,oG 70 69 false (.move (oT 0)),oG 71 69 false (.nilCheck (oT 70)),oG 72 69 false (.fieldAddr 158 (oT 71) 0),oG 73 69 false (.load 156 (oT 72)),oG 74 69 false (oK 122 #[(oT 73),(oD 108)] #[156,5]),oG 75 69 false (.binOp .gtr 3 (oT 74) (oC 8) 3),oO 76 (.pick (oT 69) (.const (.bool true)) (oT 75))]) (.cond (oT 76) (.reg [oO 6 (.assign (oC 5))]) .skip)) (.seq (.reg [oF 77 100 3 3,oL 78 3 77,oM 79 6,oA 4 78,oA 5 79]) .ret))
noncomputable def Xra:AC:=
 (.seq (.seq (.reg [oF 14 100 3 1,oL 15 5 14]) (.block 0 (.seq (.reg [oO 17 (.binOp .eql 5 (oT 15) (oD 110) 5),oA 16 17]) (.cond (oT 16) (.reg [oM 18 0,oO 19 (.nilCheck (oT 18)),oF 20 158 19 0,oL 21 156 20,oO 22 (.call (.mk (.value (.func 120)) #[(oT 21),(.const (.string (ByteArray.mk #[49,50,51,112,105])))] #[156,9])),oO 23 (.nilCheck (oT 22)),oF 24 163 23 3,oL 25 3 24,oO 26 (.binOp .add 3 (oT 25) (oC 1) 3),oO 27 (.nilCheck (oT 22)),oF 28 163 27 3,oS (.store 3 (oT 28) (oT 26))]) (.seq (.reg [oO 30 (.binOp .eql 5 (oT 15) (oD 108) 5),oA 29 30]) (.cond (oT 29) (.reg [oM 31 0,oO 32 (.nilCheck (oT 31)),oF 33 158 32 0,oL 34 156 33,oO 35 (oK 121 #[(oT 34)] #[156]),oO 36 (.nilCheck (oT 35)),oF 37 163 36 4,oS (.store 4 (oT 37) (.const (.bool true)))]) .skip)))))) (.seq (.reg [oM 38 0,oF 39 100 3 1,oL 40 5 39,oF 41 100 3 3,oL 42 3 41,oO 43 (.build 103 #[(0,(oT 40)),(2,(oT 42)),(3,(oC 1))]),oO 44 (oK 119 #[(oT 38),(oT 43)] #[114,103]),oA 6 44]) (.seq (.draw [oM 45 0,oM 46 0,oO 47 (.nilCheck (oT 46)),oF 48 158 47 0,oL 49 156 48,oF 50 100 3 1,oL 51 5 50,oM 52 0,oO 53 (.nilCheck (oT 52)),oF 54 158 53 1,oL 55 51 54,oN 56 55 51,oO 57 (.binOp .sub 3 (oT 56) (oC 1) 3),oO 58 (.build 163 #[(0,(oT 51)),(1,(oT 57))]),oO 59 (.buildSlice 156 1 #[(0,(oT 58))]),oO 60 (.call (.mk (.builtin .append) #[(oT 49),(oT 59)] #[156,156])),oO 61 (.nilCheck (oT 45)),oF 62 158 61 0,oS (.store 156 (oT 62) (oT 60))] (.op 0 (.op 1 (.op 2 (.op 3 (.op 4 (.op 5 (.op 6 (.op 7 (.op 8 (.op 9 (.op 10 (.op 11 (.op 12 (.op 13 (.op 14 (.op 15 (.op 16 (.op 17 (.op 18 .done)))))))))))))))))))) Xqa)))
noncomputable def Zia:AC:=
 (.seq (.reg [oO 3 (.box 100 (oT 1)),oO 4 (.assign (oC 0)),oO 5 (.assign (oC 0))]) (.seq (.seq (.reg [oM 7 0,oF 8 100 3 1,oL 9 5 8,oO 10 (oK 79 #[(oT 7),(oT 9)] #[114,5]),oO 11 (.unOp .not 4 (oT 10))]) (.cond (oT 11) (.seq (.reg [oF 12 100 3 3,oL 13 3 12,oA 4 13,oO 5 (.assign (oC 2))]) .ret) .skip)) Xra))
theorem Xga:EN Zia [(ResultVar.tmp 4),(ResultVar.tmp 5)] 80 76:=acE Tryz.func76 (ann:=Vea)
def Y2.w (a0_:Zm) (c0_0_:List Zc) (c0_1_:List Za) (c0_2_:List (Xb×Int)) (Q:(Int×Int)→(List Zc)→(List Za)→Prop):Prop:=
 Yi.w a0_.Name c0_0_ c0_1_ c0_2_ (fun r1 v1 v2=>
  if (!r1) = true then
   Q (a0_.At,2) v1 v2
  else
   wcut (α:=(List Zc)) (fun k1=>
    if a0_.Name = 110 then
     (I64 ((v1.length:Int) - 1)) ∧
     X2 (σ:=(List Zc)×Int) (fun ⟨a2,a3⟩ next1=>
      if 0≤a3 then
       (0≤a3) ∧
       ∃ v3:Zc,a2[a3.toNat]? = some v3 ∧
       strings_IndexByte.w (ByteArray.mk #[49,50,51,112,105]) v3.kind (fun r2=>
        if 0≤r2 then
         (I64 (v3.note+1)) ∧
         k1 (a2.set a3.toNat (⟨v3.kind,v3.at_,v3.kids,v3.note+1,v3.past,v3.cols,v3.text⟩:Zc))
        else
         (I64 (a3 - 1)) ∧
         next1 (a2,a3 - 1))
      else
       False) (v1,(v1.length:Int) - 1)
    else
     if a0_.Name = 108 then
      if (v1.length:Int) = 0 then
       k1 v1
      else
       (I64 ((v1.length:Int) - 1)) ∧
       (0≤(v1.length:Int) - 1) ∧
       ∃ v5:Zc,v1[((v1.length:Int) - 1).toNat]? = some v5 ∧
       k1 (v1.set (((v1.length:Int) - 1).toNat) (⟨v5.kind,v5.at_,v5.kids,v5.note,true,v5.cols,v5.text⟩:Zc))
     else
      k1 v1) (fun a1=>
    Yr.w (⟨a0_.Name,(ByteArray.mk #[]),a0_.At,1⟩:Za) a1 v2 c0_2_ (fun r3 v6 v7=>
     (I64 ((v7.length:Int) - 1)) ∧
     ((v6.length+([(⟨a0_.Name,(v7.length:Int) - 1,0,0,false,0,0⟩:Zc)]:List Zc).length) * 56≤140737488355328) ∧
     wcut (α:=Int) (fun k2=>
      if 32 < ((v6++([(⟨a0_.Name,(v7.length:Int) - 1,0,0,false,0,0⟩:Zc)]:List Zc)).length:Int) then
       k2 5
      else
       Zs.w (v6++([(⟨a0_.Name,(v7.length:Int) - 1,0,0,false,0,0⟩:Zc)]:List Zc)) 108 (fun r4=>
        if 8 < r4 then
         k2 5
        else
         k2 r3)) (fun a4=>
      Q (a0_.At,a4) (v6++([(⟨a0_.Name,(v7.length:Int) - 1,0,0,false,0,0⟩:Zc)]:List Zc)) v7))))
theorem Y2.ok {a0_:Zm} {c0_0_:List Zc} {c0_1_:List Za} {c0_2_:List (Xb×Int)} {Q:(Int×Int)→(List Zc)→(List Za)→Prop} (hm:Y2.w a0_ c0_0_ c0_1_ c0_2_ Q) {h0 h:Hp} {b0_ mc0_2_:Nat} {x0_0_ x0_1_:AV} (H:AM.Own h0 h [⟨x0_0_,false,7,c0_0_.map Zc.enc,some (163,0)⟩,⟨x0_1_,false,4,c0_1_.map Za.enc,some (103,0)⟩,⟨(.optr b0_ 3 0 0),true,3,[[x0_0_,x0_1_,(.val (.map (some mc0_2_)))]],some (158,3)⟩]) (hmc0_2_:h0.r mc0_2_ = some (Yo (c0_2_.map fun p=>(Value.agg #[Value.int .u8 p.1.in_,Value.int .u8 p.1.kind],Value.int .i64 p.2)))):Zo Tryz.prog Jha [(.optr b0_ 3 0 0),(.agg (Zm.enc a0_))] h (fun e h'=>∃ (r:Int×Int) (c0_0':List Zc) (c0_1':List Za) (x0_0_':AV) (x0_1_':AV),e = .ret ((fun r=>.tup [(aint r.1),(aint r.2)]) r)∧AM.Own h0 h' [⟨x0_0_',false,7,c0_0'.map Zc.enc,some (163,0)⟩,⟨x0_1_',false,4,c0_1'.map Za.enc,some (103,0)⟩,⟨(.optr b0_ 3 0 0),true,3,[[x0_0_',x0_1_',(.val (.map (some mc0_2_)))]],some (158,3)⟩]∧Q r c0_0' c0_1'):=by
 refine Xga ?_
 unfold Y2.w at hm
 try simp -implicitDefEqProofs (disch:=omega) only [push_cast,seval,Zia,H.p 2 rfl]
 refine H.newR (Zm.enc a0_) rfl (fun b1 h1 H=>?_)
 refine sg (ai (H.p 2 rfl) (H.p 3 rfl)) ?_
 obtain ⟨h2,HF1,hB1⟩:=H.frameS [0,1,2] (by decide)
 refine Z1 (Yi.ok hm HF1 (hB1.2.r _ _ hmc0_2_)) ?_
 rintro _ h3 ⟨r1,v1,v2,x1,x2,rfl,H',hm⟩
 replace H:=hB1.1 _ _ rfl H'
 refine sg (ai (H.p 2 rfl) (H.p 3 rfl)) ?_
 rw [Zw]
 refine ⟨fun c1=>?_,fun c1=>?_⟩
 ·replace hm:=ifp hm c1
  refine sg (ai c1 (ai (H.p 2 rfl) (H.p 3 rfl))) ?_
  replace H:=H.pm [0,1,2]
  exact Ym (.inl rfl) (x:=(.tup [(aint a0_.At),(aint 2)])) rfl (Zf.refl _ _) ⟨(a0_.At,2),v1,v2,x1,x2,rfl,H,hm⟩
 replace hm:=ifn hm (by rw [c1]; exact Bool.false_ne_true)
 refine sg (ai c1 (ai (H.p 2 rfl) (H.p 3 rfl))) ?_
 obtain ⟨k1,hm,hk1⟩:=Yn hm
 obtain ⟨M1,hM1⟩:∃ M:AM.St→Prop,M = (fun s'=>∃ (a1:List Zc) (x3:AV) (h4:Hp),Like s'.tm (((List.replicate 80 none).set 0 (some (.optr b0_ 3 0 0))).set 3 (some (.optr b1 4 0 0)))∧s'.h = h4∧AM.Own h0 h4 [⟨x3,false,7,a1.map Zc.enc,some (163,0)⟩,⟨x2,false,4,v2.map Za.enc,some (103,0)⟩,⟨(.optr b0_ 3 0 0),true,3,[[x3,x2,(.val (.map (some mc0_2_)))]],some (158,3)⟩,⟨(.optr b1 4 0 0),true,4,[(Zm.enc a0_)],some (100,4)⟩]∧k1 a1):=⟨_,rfl⟩
 refine Xe M1 ?_ ?_
 ·refine sg (ai c1 (ai (H.p 2 rfl) (H.p 3 rfl))) ?_
  refine fkc (fun c2=>?_) fun c2=>?_
  ·replace hm:=ifp hm c2
   refine sg (ai c1 (ai (eq_true c2) (ai (H.p 2 rfl) (H.p 3 rfl)))) ?_
   refine Z1 (Xy ?_) (fun _ _ h=>h)
   obtain ⟨w1,hm⟩:=hm
   try simp -implicitDefEqProofs (disch:=omega) only [push_cast,seval,Xz,c1,eq_true c2,wrap_i64 _ w1,H.lenE 0 rfl V1,H.p 2 rfl,H.p 3 rfl]
   obtain ⟨inv1,mu1,hi1,hs2⟩:=hm
   replace H:=H.pm [0,1,2,3]
   refine Z7 (σ:=((List Zc)×Int)×AV×Hp) (fun ⟨⟨a2,a3⟩,x4,h5⟩=>⟨(((List.replicate 24 AV.any).set 0 x4).set 1 (astr (ByteArray.mk #[49,50,51,112,105]))).set 5 (aint a3),h5⟩) (fun ⟨⟨a2,a3⟩,x4,h5⟩=>inv1 (a2,a3)∧AM.Own h0 h5 [⟨x4,false,7,a2.map Zc.enc,some (163,0)⟩,⟨x2,false,4,v2.map Za.enc,some (103,0)⟩,⟨(.optr b0_ 3 0 0),true,3,[[x4,x2,(.val (.map (some mc0_2_)))]],some (158,3)⟩,⟨(.optr b1 4 0 0),true,4,[(Zm.enc a0_)],some (100,4)⟩]) (fun ⟨⟨a2,a3⟩,x4,h5⟩=>mu1 (a2,a3)) ⟨(v1,(v1.length:Int) - 1),x1,h3⟩ (rtw) ⟨hi1,H⟩ ?_
   rintro ⟨⟨a2,a3⟩,x4,h5⟩ ⟨hi1,H⟩
   have hm:=hs2 _ hi1
   dsimp only at hm H ⊢
   refine sg (ai c1 (ai (eq_true c2) (ai (wrap_i64 _ w1) (ai (H.p 2 rfl) (H.p 3 rfl))))) ?_
   refine fkc (fun c3=>?_) fun c3=>?_
   ·replace hm:=ifp hm c3
    have F1:=ai c1 (ai (eq_true c2) (ai (wrap_i64 _ w1) (eq_true c3)))
    refine sg (ai F1 (ai (H.p 2 rfl) (H.p 3 rfl))) ?_
    obtain ⟨z1,v3,i1,hm⟩:=hm
    obtain ⟨b2,o1,rfl,qb,qc,qd,qe⟩:=H.row (k:=a3.toNat) (r:=Zc.enc v3) 0 rfl (gmp i1)
    try rw [List.length_map] at qe
    have q1:=ai qb (ai qc (ai qd (eq_true qe)))
    rw [List.length_map] at H
    refine sg (ai F1 (ai (eq_true z1) (ai q1 (ai (H.p 2 rfl) (H.p 3 rfl))))) ?_
    refine Zn (fun h=>strings_IndexByte.ok hm h) (fun r2 hm=>?_)
    refine sg (ai F1 (ai (eq_true z1) (ai q1 (ai (H.p 2 rfl) (H.p 3 rfl))))) ?_
    refine fkc (fun c4=>?_) fun c4=>?_
    ·replace hm:=ifp hm c4
     refine sg (ai F1 (ai (eq_true z1) (ai q1 (ai (eq_true c4) (ai (H.p 2 rfl) (H.p 3 rfl)))))) ?_
     refine Yx (.inl rfl) rfl ?_
     obtain ⟨w2,hm⟩:=hm
     have F2:=ai F1 (ai (eq_true z1) (ai (eq_true c4) (wrap_i64 _ w2)))
     refine sg (ai F2 (ai q1 (ai (H.p 2 rfl) (H.p 3 rfl)))) ?_
     have i3:=Z0a (⟨v3.kind,v3.at_,v3.kids,v3.note+1,v3.past,v3.cols,v3.text⟩:Zc) i1
     refine H.stL 0 (⟨v3.kind,v3.at_,v3.kids,v3.note+1,v3.past,v3.cols,v3.text⟩:Zc) rfl i1 rfl rfl rfl (Nat.le_of_ble_eq_true rfl) rfl (fun h6 H=>?_)
     refine sg (ai F2 (ai q1 (ai (H.p 2 rfl) (H.p 3 rfl)))) ?_
     replace H:=H.pm [0,1,2,3]
     subst hM1
     exact ⟨a2.set a3.toNat (⟨v3.kind,v3.at_,v3.kids,v3.note+1,v3.past,v3.cols,v3.text⟩:Zc),(.osl b2 7 0 a2.length),h6,lkt,rfl,H,hm⟩
    replace hm:=ifn hm c4
    obtain ⟨w3,hm⟩:=hm
    have F3:=ai F1 (ai (eq_true z1) (ai (eq_false c4) (wrap_i64 _ w3)))
    refine sg (ai F3 (ai q1 (ai (H.p 2 rfl) (H.p 3 rfl)))) ?_
    replace H:=H.pm [0,1,2,3]
    exact ⟨⟨(a2,a3 - 1),(.osl b2 7 0 a2.length),h5⟩,hm.2,⟨hm.1,H⟩,rtw⟩
   replace hm:=ifn hm c3
   have F4:=ai c1 (ai (eq_true c2) (ai (wrap_i64 _ w1) (eq_false c3)))
   refine sg (ai F4 (ai (H.p 2 rfl) (H.p 3 rfl))) ?_
   refine Yx (.inl rfl) rfl ?_
   exact hm.elim
  replace hm:=ifn hm c2
  refine sg (ai c1 (ai (eq_false c2) (ai (H.p 2 rfl) (H.p 3 rfl)))) ?_
  refine fkc (fun c5=>?_) fun c5=>?_
  ·replace hm:=ifp hm c5
   refine sg (ai c1 (ai (eq_false c2) (ai (eq_true c5) (ai (H.p 2 rfl) (H.p 3 rfl))))) ?_
   refine Z1 (Vv ?_) (fun _ _ h=>h)
   try simp -implicitDefEqProofs (disch:=omega) only [push_cast,seval,Ka,c1,eq_false c2,eq_true c5,H.lenE 0 rfl V1,H.p 2 rfl,H.p 3 rfl]
   refine fkc (fun c6=>?_) fun c6=>?_
   ·replace hm:=ifp hm c6
    refine sg (ai c1 (ai (eq_false c2) (ai (eq_true c5) (ai (eq_true c6) (ai (H.p 2 rfl) (H.p 3 rfl)))))) ?_
    refine H.newR [(.val (.int .u8 0)),(aint 0),(aint 0),(aint 0),(Zk false),(aint 0),(aint 0)] rfl (fun b3 h7 H=>?_)
    refine sg (ai c1 (ai (eq_false c2) (ai (eq_true c5) (ai (eq_true c6) (ai (H.p 2 rfl) (ai (H.p 3 rfl) (H.p 4 rfl))))))) ?_
    refine Yx (.inl rfl) rfl ?_
    refine sg (ai c1 (ai (eq_false c2) (ai (eq_true c5) (ai (eq_true c6) (ai (H.p 2 rfl) (ai (H.p 3 rfl) (H.p 4 rfl))))))) ?_
    refine H.stP 4 [(.val (.int .u8 0)),(aint 0),(aint 0),(aint 0),(Zk true),(aint 0),(aint 0)] rfl rfl rfl rfl (Nat.le_of_ble_eq_true rfl) rfl (fun h8 H=>?_)
    refine sg (ai c1 (ai (eq_false c2) (ai (eq_true c5) (ai (eq_true c6) (ai (H.p 2 rfl) (ai (H.p 3 rfl) (H.p 4 rfl))))))) ?_
    replace H:=H.pm [0,1,2,3]
    subst hM1
    exact ⟨v1,x1,h8,lkt,rfl,H,hm⟩
   replace hm:=ifn hm c6
   obtain ⟨w4,hm⟩:=hm
   have F5:=ai c1 (ai (eq_false c2) (ai (eq_true c5) (ai (eq_false c6) (wrap_i64 _ w4))))
   refine sg (ai F5 (ai (H.lenE 0 rfl V1) (ai (H.p 2 rfl) (H.p 3 rfl)))) ?_
   obtain ⟨z2,v5,i4,hm⟩:=hm
   obtain ⟨b4,o2,rfl,qb,qc,qd,qe⟩:=H.row (k:=((v1.length:Int) - 1).toNat) (r:=Zc.enc v5) 0 rfl (gmp i4)
   try rw [List.length_map] at qe
   have q5:=ai qb (ai qc (ai qd (eq_true qe)))
   rw [List.length_map] at H
   refine sg (ai F5 (ai (eq_true z2) (ai q5 (ai (H.p 2 rfl) (H.p 3 rfl))))) ?_
   refine Yx (.inl rfl) rfl ?_
   refine sg (ai F5 (ai (eq_true z2) (ai q5 (ai (H.p 2 rfl) (H.p 3 rfl))))) ?_
   have i5:=Z0a (⟨v5.kind,v5.at_,v5.kids,v5.note,true,v5.cols,v5.text⟩:Zc) i4
   refine H.stL 0 (⟨v5.kind,v5.at_,v5.kids,v5.note,true,v5.cols,v5.text⟩:Zc) rfl i4 rfl rfl rfl (Nat.le_of_ble_eq_true rfl) rfl (fun h9 H=>?_)
   refine sg (ai F5 (ai (eq_true z2) (ai q5 (ai (H.p 2 rfl) (H.p 3 rfl))))) ?_
   replace H:=H.pm [0,1,2,3]
   subst hM1
   exact ⟨v1.set (((v1.length:Int) - 1).toNat) (⟨v5.kind,v5.at_,v5.kids,v5.note,true,v5.cols,v5.text⟩:Zc),(.osl b4 7 0 v1.length),h9,lkt,rfl,H,hm⟩
  replace hm:=ifn hm c5
  refine sg (ai c1 (ai (eq_false c2) (ai (eq_false c5) (ai (H.p 2 rfl) (H.p 3 rfl))))) ?_
  replace H:=H.pm [0,1,2,3]
  subst hM1
  exact ⟨v1,x1,h3,lkt,rfl,H,hm⟩
 subst hM1
 rintro ⟨tm,h4⟩ ⟨a1,x3,_,hL,rfl,H,hm⟩
 dsimp only at hL H
 obtain ⟨D,rfl⟩:=hL.fill 0
 replace hm:=hk1 _ hm
 refine sg (ai c1 (ai (H.p 2 rfl) (H.p 3 rfl))) ?_
 obtain ⟨h10,HF2,hB2⟩:=H.frameS [0,1,2] (by decide)
 refine Z1 (Yr.ok hm HF2 (hB2.2.r _ _ hmc0_2_)) ?_
 rintro _ h11 ⟨r3,v6,v7,x5,x6,rfl,H',hm⟩
 replace H:=hB2.1 _ _ rfl H'
 obtain ⟨w5,hm⟩:=hm
 refine sg (ai c1 (ai (wrap_i64 _ w5) (ai (H.lenE 1 rfl tab_51) (ai (H.p 2 rfl) (H.p 3 rfl))))) ?_
 refine H.newL (E:=Zc.enc) ([(⟨a0_.Name,(v7.length:Int) - 1,0,0,false,0,0⟩:Zc)]:List Zc) rfl rfl (fun b5 h12 H=>?_)
 refine sg (ai c1 (ai (wrap_i64 _ w5) (ai (H.src (e:=163) 4 rfl) (ai (H.p 2 rfl) (H.p 3 rfl))))) ?_
 obtain ⟨w6,hm⟩:=hm
 refine H.appL (E:=Zc.enc) 0 ([(⟨a0_.Name,(v7.length:Int) - 1,0,0,false,0,0⟩:Zc)]:List Zc) rfl rfl rfl (by decide) (by decide) w6 (fun x7 h13 H=>?_)
 refine sg (ai c1 (ai (wrap_i64 _ w5) (ai (H.p 2 rfl) (H.p 3 rfl)))) ?_
 refine H.stP 2 [x7,x6,(.val (.map (some mc0_2_)))] rfl (H.ok 0 rfl).1 (H.ok 0 rfl).2 rfl (Nat.le_of_ble_eq_true rfl) rfl (fun h14 H=>?_)
 refine sg (ai c1 (ai (wrap_i64 _ w5) (ai (H.p 2 rfl) (H.p 3 rfl)))) ?_
 obtain ⟨k2,hm,hk2⟩:=Yn hm
 obtain ⟨M2,hM2⟩:∃ M:AM.St→Prop,M = (fun s'=>∃ (a4:Int) (h15:Hp),Like s'.tm (((List.replicate 80 none).set 3 (some (.optr b1 4 0 0))).set 6 (some (aint a4)))∧s'.h = h15∧AM.Own h0 h15 [⟨x7,false,7,(v6++([(⟨a0_.Name,(v7.length:Int) - 1,0,0,false,0,0⟩:Zc)]:List Zc)).map Zc.enc,some (163,0)⟩,⟨x6,false,4,v7.map Za.enc,some (103,0)⟩,⟨(.optr b0_ 3 0 0),true,3,[[x7,x6,(.val (.map (some mc0_2_)))]],some (158,3)⟩,⟨(.optr b1 4 0 0),true,4,[(Zm.enc a0_)],some (100,4)⟩]∧k2 a4):=⟨_,rfl⟩
 refine Xe M2 ?_ ?_
 ·refine sg (ai c1 (ai (wrap_i64 _ w5) (ai (H.lenE 0 rfl V1) (ai (H.p 2 rfl) (H.p 3 rfl))))) ?_
  refine gfk' (fun c7=>?_) fun c7=>?_
  ·replace hm:=ifp hm c7
   refine sg (ai c1 (ai (wrap_i64 _ w5) (ai (eq_true c7) (ai (H.p 2 rfl) (H.p 3 rfl))))) ?_
   replace H:=H.pm [0,1,2,3]
   subst hM2
   exact ⟨5,h14,lkt,rfl,H,hm⟩
  replace hm:=ifn hm c7
  refine sg (ai c1 (ai (wrap_i64 _ w5) (ai (eq_false c7) (ai (H.p 2 rfl) (H.p 3 rfl))))) ?_
  refine Kk (fun h=>Zs.ok hm h) (fun _=>rfl) ⟨H.lent 0 rfl,Lent.refl _ _,trivial⟩ (fun r4 hm=>?_)
  refine sg (ai c1 (ai (wrap_i64 _ w5) (ai (eq_false c7) (ai (H.p 2 rfl) (H.p 3 rfl))))) ?_
  refine fkc (fun c8=>?_) fun c8=>?_
  ·replace hm:=ifp hm c8
   have F6:=ai c1 (ai (wrap_i64 _ w5) (ai (eq_false c7) (eq_true c8)))
   refine sg (ai F6 (ai (H.p 2 rfl) (H.p 3 rfl))) ?_
   replace H:=H.pm [0,1,2,3]
   subst hM2
   exact ⟨5,h14,lkt,rfl,H,hm⟩
  replace hm:=ifn hm c8
  have F7:=ai c1 (ai (wrap_i64 _ w5) (ai (eq_false c7) (eq_false c8)))
  refine sg (ai F7 (ai (H.p 2 rfl) (H.p 3 rfl))) ?_
  replace H:=H.pm [0,1,2,3]
  subst hM2
  exact ⟨r3,h14,lkt,rfl,H,hm⟩
 subst hM2
 rintro ⟨tm,h15⟩ ⟨a4,_,hL,rfl,H,hm⟩
 dsimp only at hL H
 obtain ⟨D,rfl⟩:=hL.fill 0
 replace hm:=hk2 _ hm
 refine sg (ai c1 (ai (wrap_i64 _ w5) (ai (H.p 2 rfl) (H.p 3 rfl)))) ?_
 replace H:=H.pm [0,1,2]
 exact Ym (.inl rfl) (x:=(.tup [(aint a0_.At),(aint a4)])) rfl (Zf.refl _ _) ⟨(a0_.At,a4),v6++([(⟨a0_.Name,(v7.length:Int) - 1,0,0,false,0,0⟩:Zc)]:List Zc),v7,x7,x6,rfl,H,hm⟩
end Go.Proofs.YtpkhmfedaaoalaaGreatDoor
