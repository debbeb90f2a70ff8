/- ItemsGlues: a part of its proof (packed by a program). -/
import Derived.Test.YtpkhmfedaaoalaaGreatDoorAwk
import Derived.Test.YtpkhmfedaaoalaaGreatDoorWA6
set_option linter.all false
namespace Go.Proofs.YtpkhmfedaaoalaaGreatDoor
open Go Go.Proofs.YtpkhmfedaaoalaaGreatDoor.AM
set_option maxRecDepth 100000
set_option maxHeartbeats 4000000
abbrev Jea:Nat:=123
def Vba:Nat→Ann
 | 9=>{ pure:=[],plan:=(.op 0 (.op 1 (.op 2 (.op 3 (.op 4 (.op 5 (.op 6 (.op 7 (.op 8 (.op 9 (.op 10 (.op 11 (.op 12 .done))))))))))))),ghost:=false,post:=false }
 | _=>{}
noncomputable def Xoa:AC:=
 (.seq (.seq (.reg [oO 9 (.binOp .eql 5 (oT 7) (oD 108) 5),oA 8 9]) (.cond (oT 8) .skip (.reg [oO 10 (.binOp .eql 5 (oT 7) (oD 116) 5),oA 8 10]))) (.cond (oT 8) (.seq (.reg [oF 11 163 3 2,oL 12 3 11,oO 13 (.binOp .gtr 3 (oT 12) (oC 0) 3),oA 4 13]) .ret) (.seq (.reg [oO 15 (.binOp .eql 5 (oT 7) (oD 114) 5),oA 14 15]) (.cond (oT 14) (.seq (.reg [oM 16 0,oO 17 (.nilCheck (oT 16)),oF 18 158 17 0,oL 19 156 18,oO 20 (.call (.mk (.value (.func 120)) #[(oT 19),(.const (.string (ByteArray.mk #[116])))] #[156,9])),oA 5 20]) (.seq (.seq (.reg [oM 21 5,oO 22 (.nilCheck (oT 21)),oF 23 163 22 5,oL 24 3 23,oO 25 (.binOp .eql 3 (oT 24) (oC 0) 3)]) (.cond (oT 25) (.reg [oM 26 5,oF 27 163 3 2,oL 28 3 27,oO 29 (.nilCheck (oT 26)),oF 30 163 29 5,oS (.store 3 (oT 30) (oT 28))]) .skip)) (.seq (.draw [oF 31 163 3 2,oL 32 3 31,oO 33 (.binOp .gtr 3 (oT 32) (oC 0) 3),oM 34 33,oG 35 34 true (.fieldAddr 163 (oT 3) 2),oG 36 34 true (.load 3 (oT 35)),oG 37 34 true (.move (oT 5)),oG 38 34 true (.nilCheck (oT 37)),oG 39 34 true (.fieldAddr 163 (oT 38) 5),oG 40 34 true (.load 3 (oT 39)),oG 41 34 true (.binOp .eql 3 (oT 36) (oT 40) 3),oO 42 (.pick (oT 34) (oT 41) (.const (.bool false))),oA 4 42] (.op 0 (.op 1 (.op 2 (.op 3 (.op 4 (.op 5 (.op 6 (.op 7 (.op 8 (.op 9 (.op 10 (.op 11 (.op 12 .done)))))))))))))) .ret))) .skip))))
noncomputable def Zfa:AC:=
 (.seq (.reg [oO 3 (.box 163 (oT 1)),oO 4 (.assign (.const (.bool false)))]) (.seq (.seq (.reg [oF 6 163 3 0,oL 7 5 6]) (.block 0 Xoa)) (.seq (.reg [oO 4 (.assign (.const (.bool true)))]) .ret)))
theorem Xda:EN Zfa [(ResultVar.tmp 4)] 43 123:=acE Tryz.func123 (ann:=Vba)
def Yz.w (a0_:Zc) (c0_0_:List Zc) (c0_1_:List Za) (c0_2_:List (Xb×Int)) (Q:Bool→(List Zc)→(List Za)→Prop):Prop:=
 wcut (α:=Bool) (fun k1=>
  if a0_.kind = 108 then
   k1 (decide (a0_.kind = 108))
  else
   k1 (decide (a0_.kind = 116))) (fun a1=>
  if a1 = true then
   Q (decide (0 < a0_.kids)) c0_0_ c0_1_
  else
   if a0_.kind = 114 then
    (I64 ((c0_0_.length:Int) - 1)) ∧
    X2 (σ:=(List Zc)×Int) (fun ⟨a2,a3⟩ next1=>
     if 0≤a3 then
      (0≤a3) ∧
      ∃ v1:Zc,a2[a3.toNat]? = some v1 ∧
      strings_IndexByte.w (ByteArray.mk #[116]) v1.kind (fun r1=>
       if 0≤r1 then
        if v1.cols = 0 then
         if 0 < a0_.kids then
          Q true (a2.set a3.toNat (⟨v1.kind,v1.at_,v1.kids,v1.note,v1.past,a0_.kids,v1.text⟩:Zc)) c0_1_
         else
          Q false (a2.set a3.toNat (⟨v1.kind,v1.at_,v1.kids,v1.note,v1.past,a0_.kids,v1.text⟩:Zc)) c0_1_
        else
         if 0 < a0_.kids then
          Q (decide (a0_.kids = v1.cols)) a2 c0_1_
         else
          Q false a2 c0_1_
       else
        (I64 (a3 - 1)) ∧
        next1 (a2,a3 - 1))
     else
      False) (c0_0_,(c0_0_.length:Int) - 1)
   else
    Q true c0_0_ c0_1_)
theorem Yz.ok {a0_:Zc} {c0_0_:List Zc} {c0_1_:List Za} {c0_2_:List (Xb×Int)} {Q:Bool→(List Zc)→(List Za)→Prop} (hm:Yz.w a0_ c0_0_ c0_1_ c0_2_ Q) {h0 h:Hp} {b0_ mc0_2_:Nat} {x0_0_ x0_1_:AV} (H:AM.Own h0 h [⟨x0_0_,false,7,c0_0_.map Zc.enc,some (163,0)⟩,⟨x0_1_,false,4,c0_1_.map Za.enc,some (103,0)⟩,⟨(.optr b0_ 3 0 0),true,3,[[x0_0_,x0_1_,(.val (.map (some mc0_2_)))]],some (158,3)⟩]) (hmc0_2_:h0.r mc0_2_ = some (Yo (c0_2_.map fun p=>(Value.agg #[Value.int .u8 p.1.in_,Value.int .u8 p.1.kind],Value.int .i64 p.2)))):Zo Tryz.prog Jea [(.optr b0_ 3 0 0),(.agg (Zc.enc a0_))] h (fun e h'=>∃ (r:Bool) (c0_0':List Zc) (c0_1':List Za) (x0_0_':AV) (x0_1_':AV),e = .ret ((fun r=>(Zk r)) r)∧AM.Own h0 h' [⟨x0_0_',false,7,c0_0'.map Zc.enc,some (163,0)⟩,⟨x0_1_',false,4,c0_1'.map Za.enc,some (103,0)⟩,⟨(.optr b0_ 3 0 0),true,3,[[x0_0_',x0_1_',(.val (.map (some mc0_2_)))]],some (158,3)⟩]∧Q r c0_0' c0_1'):=by
 refine Xda ?_
 unfold Yz.w at hm
 try simp -implicitDefEqProofs (disch:=omega) only [push_cast,seval,Zfa,H.p 2 rfl]
 refine H.newR (Zc.enc a0_) rfl (fun b1 h1 H=>?_)
 refine sg (ai (H.p 2 rfl) (H.p 3 rfl)) ?_
 obtain ⟨k1,hm,hk1⟩:=Yn hm
 obtain ⟨M1,hM1⟩:∃ M:AM.St→Prop,M = (fun s'=>∃ (a1:Bool) (h2:Hp),Like s'.tm (((((List.replicate 43 none).set 0 (some (.optr b0_ 3 0 0))).set 3 (some (.optr b1 7 0 0))).set 7 (some (.val (.int .u8 a0_.kind)))).set 8 (some (Zk a1)))∧s'.h = h2∧AM.Own h0 h2 [⟨x0_0_,false,7,c0_0_.map Zc.enc,some (163,0)⟩,⟨x0_1_,false,4,c0_1_.map Za.enc,some (103,0)⟩,⟨(.optr b0_ 3 0 0),true,3,[[x0_0_,x0_1_,(.val (.map (some mc0_2_)))]],some (158,3)⟩,⟨(.optr b1 7 0 0),true,7,[(Zc.enc a0_)],some (163,7)⟩]∧k1 a1):=⟨_,rfl⟩
 refine Xe M1 ?_ ?_
 ·refine sg (ai (H.p 2 rfl) (H.p 3 rfl)) ?_
  refine fkc (fun c1=>?_) fun c1=>?_
  ·replace hm:=ifp hm c1
   refine sg (ai (eq_true c1) (ai (H.p 2 rfl) (H.p 3 rfl))) ?_
   replace H:=H.pm [0,1,2,3]
   subst hM1
   exact ⟨decide (a0_.kind = 108),h1,lkt,rfl,H,hm⟩
  replace hm:=ifn hm c1
  refine sg (ai (eq_false c1) (ai (H.p 2 rfl) (H.p 3 rfl))) ?_
  replace H:=H.pm [0,1,2,3]
  subst hM1
  exact ⟨decide (a0_.kind = 116),h1,lkt,rfl,H,hm⟩
 subst hM1
 rintro ⟨tm,h2⟩ ⟨a1,_,hL,rfl,H,hm⟩
 dsimp only at hL H
 obtain ⟨D,rfl⟩:=hL.fill 0
 replace hm:=hk1 _ hm
 refine sg (ai (H.p 2 rfl) (H.p 3 rfl)) ?_
 rw [Zw]
 refine ⟨fun c2=>?_,fun c2=>?_⟩
 ·replace hm:=ifp hm c2
  refine sg (ai c2 (ai (H.p 2 rfl) (H.p 3 rfl))) ?_
  replace H:=H.pm [0,1,2]
  exact Ym (.inl rfl) (x:=(Zk (decide (0 < a0_.kids)))) rfl (Zf.refl _ _) ⟨decide (0 < a0_.kids),c0_0_,c0_1_,x0_0_,x0_1_,rfl,H,hm⟩
 replace hm:=ifn hm (by rw [c2]; exact Bool.false_ne_true)
 refine sg (ai c2 (ai (H.p 2 rfl) (H.p 3 rfl))) ?_
 refine fkc (fun c3=>?_) fun c3=>?_
 ·replace hm:=ifp hm c3
  refine sg (ai c2 (ai (eq_true c3) (ai (H.p 2 rfl) (H.p 3 rfl)))) ?_
  refine Z1 (Xy ?_) (fun _ _ h=>h)
  obtain ⟨w1,hm⟩:=hm
  try simp -implicitDefEqProofs (disch:=omega) only [push_cast,seval,Xz,c2,eq_true c3,wrap_i64 _ w1,H.lenE 0 rfl V1,H.p 2 rfl,H.p 3 rfl]
  obtain ⟨inv1,mu1,hi1,hs1⟩:=hm
  replace H:=H.pm [0,1,2,3]
  refine Z7 (σ:=((List Zc)×Int)×AV×Hp) (fun ⟨⟨a2,a3⟩,x1,h3⟩=>⟨(((List.replicate 24 AV.any).set 0 x1).set 1 (astr (ByteArray.mk #[116]))).set 5 (aint a3),h3⟩) (fun ⟨⟨a2,a3⟩,x1,h3⟩=>inv1 (a2,a3)∧AM.Own h0 h3 [⟨x1,false,7,a2.map Zc.enc,some (163,0)⟩,⟨x0_1_,false,4,c0_1_.map Za.enc,some (103,0)⟩,⟨(.optr b0_ 3 0 0),true,3,[[x1,x0_1_,(.val (.map (some mc0_2_)))]],some (158,3)⟩,⟨(.optr b1 7 0 0),true,7,[(Zc.enc a0_)],some (163,7)⟩]) (fun ⟨⟨a2,a3⟩,x1,h3⟩=>mu1 (a2,a3)) ⟨(c0_0_,(c0_0_.length:Int) - 1),x0_0_,h2⟩ (rtw) ⟨hi1,H⟩ ?_
  rintro ⟨⟨a2,a3⟩,x1,h3⟩ ⟨hi1,H⟩
  have hm:=hs1 _ hi1
  dsimp only at hm H ⊢
  refine sg (ai c2 (ai (eq_true c3) (ai (wrap_i64 _ w1) (ai (H.p 2 rfl) (H.p 3 rfl))))) ?_
  refine fkc (fun c4=>?_) fun c4=>?_
  ·replace hm:=ifp hm c4
   have F1:=ai c2 (ai (eq_true c3) (ai (wrap_i64 _ w1) (eq_true c4)))
   refine sg (ai F1 (ai (H.p 2 rfl) (H.p 3 rfl))) ?_
   obtain ⟨z1,v1,i1,hm⟩:=hm
   obtain ⟨b2,o1,rfl,qb,qc,qd,qe⟩:=H.row (k:=a3.toNat) (r:=Zc.enc v1) 0 rfl (gmp i1)
   try rw [List.length_map] at qe
   have q1:=ai qb (ai qc (ai qd (eq_true qe)))
   rw [List.length_map] at H
   refine sg (ai F1 (ai (eq_true z1) (ai q1 (ai (H.p 2 rfl) (H.p 3 rfl))))) ?_
   refine Zn (fun h=>strings_IndexByte.ok hm h) (fun r1 hm=>?_)
   refine sg (ai F1 (ai (eq_true z1) (ai q1 (ai (H.p 2 rfl) (H.p 3 rfl))))) ?_
   refine fkc (fun c5=>?_) fun c5=>?_
   ·replace hm:=ifp hm c5
    refine sg (ai F1 (ai (eq_true z1) (ai q1 (ai (eq_true c5) (ai (H.p 2 rfl) (H.p 3 rfl)))))) ?_
    refine Yx (.inl rfl) rfl ?_
    refine sg (ai F1 (ai (eq_true z1) (ai q1 (ai (eq_true c5) (ai (H.p 2 rfl) (H.p 3 rfl)))))) ?_
    refine fkc (fun c6=>?_) fun c6=>?_
    ·replace hm:=ifp hm c6
     have F2:=ai F1 (ai (eq_true z1) (ai (eq_true c5) (eq_true c6)))
     refine sg (ai F2 (ai q1 (ai (H.p 2 rfl) (H.p 3 rfl)))) ?_
     have i3:=Z0a (⟨v1.kind,v1.at_,v1.kids,v1.note,v1.past,a0_.kids,v1.text⟩:Zc) i1
     refine H.stL 0 (⟨v1.kind,v1.at_,v1.kids,v1.note,v1.past,a0_.kids,v1.text⟩:Zc) rfl i1 rfl rfl rfl (Nat.le_of_ble_eq_true rfl) rfl (fun h4 H=>?_)
     refine sg (ai F2 (ai q1 (ai (H.p 2 rfl) (H.p 3 rfl)))) ?_
     refine gfk (fun c7=>?_) fun c7=>?_
     ·replace hm:=ifp hm c7
      obtain ⟨o2,qb,qc,qd,qe⟩:=H.rowX (k:=a3.toNat) (r:=Zc.enc (⟨v1.kind,v1.at_,v1.kids,v1.note,v1.past,a0_.kids,v1.text⟩:Zc)) 0 rfl (gmp i3)
      try rw [List.length_map] at qe
      have q5:=ai qb (ai qc (ai qd (eq_true qe)))
      refine sg (ai F2 (ai q1 (ai (eq_true c7) (ai q5 (ai (H.p 2 rfl) (H.p 3 rfl)))))) ?_
      replace H:=H.pm [0,1,2]
      exact Ym (.inl rfl) (x:=(Zk true)) rfl (Zf.refl _ _) ⟨true,a2.set a3.toNat (⟨v1.kind,v1.at_,v1.kids,v1.note,v1.past,a0_.kids,v1.text⟩:Zc),c0_1_,(.osl b2 7 0 a2.length),x0_1_,rfl,H,hm⟩
     replace hm:=ifn hm c7
     refine sg (ai F2 (ai q1 (ai (eq_false c7) (ai (H.p 2 rfl) (H.p 3 rfl))))) ?_
     replace H:=H.pm [0,1,2]
     exact Ym (.inl rfl) (x:=(Zk false)) rfl (Zf.refl _ _) ⟨false,a2.set a3.toNat (⟨v1.kind,v1.at_,v1.kids,v1.note,v1.past,a0_.kids,v1.text⟩:Zc),c0_1_,(.osl b2 7 0 a2.length),x0_1_,rfl,H,hm⟩
    replace hm:=ifn hm c6
    have F3:=ai F1 (ai (eq_true z1) (ai (eq_true c5) (eq_false c6)))
    refine sg (ai F3 (ai q1 (ai (H.p 2 rfl) (H.p 3 rfl)))) ?_
    refine gfk (fun c8=>?_) fun c8=>?_
    ·replace hm:=ifp hm c8
     refine sg (ai F3 (ai q1 (ai (eq_true c8) (ai (H.p 2 rfl) (H.p 3 rfl))))) ?_
     replace H:=H.pm [0,1,2]
     exact Ym (.inl rfl) (x:=(Zk (decide (a0_.kids = v1.cols)))) rfl (Zf.refl _ _) ⟨decide (a0_.kids = v1.cols),a2,c0_1_,(.osl b2 7 0 a2.length),x0_1_,rfl,H,hm⟩
    replace hm:=ifn hm c8
    refine sg (ai F3 (ai q1 (ai (eq_false c8) (ai (H.p 2 rfl) (H.p 3 rfl))))) ?_
    replace H:=H.pm [0,1,2]
    exact Ym (.inl rfl) (x:=(Zk false)) rfl (Zf.refl _ _) ⟨false,a2,c0_1_,(.osl b2 7 0 a2.length),x0_1_,rfl,H,hm⟩
   replace hm:=ifn hm c5
   obtain ⟨w2,hm⟩:=hm
   have F4:=ai F1 (ai (eq_true z1) (ai (eq_false c5) (wrap_i64 _ w2)))
   refine sg (ai F4 (ai q1 (ai (H.p 2 rfl) (H.p 3 rfl)))) ?_
   replace H:=H.pm [0,1,2,3]
   exact ⟨⟨(a2,a3 - 1),(.osl b2 7 0 a2.length),h3⟩,hm.2,⟨hm.1,H⟩,rtw⟩
  replace hm:=ifn hm c4
  have F5:=ai c2 (ai (eq_true c3) (ai (wrap_i64 _ w1) (eq_false c4)))
  refine sg (ai F5 (ai (H.p 2 rfl) (H.p 3 rfl))) ?_
  refine Yx (.inl rfl) rfl ?_
  exact hm.elim
 replace hm:=ifn hm c3
 refine sg (ai c2 (ai (eq_false c3) (ai (H.p 2 rfl) (H.p 3 rfl)))) ?_
 replace H:=H.pm [0,1,2]
 exact Ym (.inl rfl) (x:=(Zk true)) rfl (Zf.refl _ _) ⟨true,c0_0_,c0_1_,x0_0_,x0_1_,rfl,H,hm⟩
abbrev Jga:Nat:=77
def Vda:Nat→Ann
 | 4=>{ pure:=[],plan:=(.op 0 (.op 1 (.op 2 (.op 3 (.op 4 (.op 5 (.op 6 (.op 7 (.op 8 (.op 9 (.op 10 (.op 11 (.op 12 (.op 13 (.op 14 .done))))))))))))))),ghost:=false,post:=false }
 | 5=>{ pure:=[],plan:=(.op 0 (.op 1 (.op 2 (.op 3 (.op 4 (.op 5 (.op 6 (.op 7 (.op 8 (.op 9 (.op 10 (.op 11 (.op 12 (.op 13 (.op 14 (.op 15 (.op 16 .done))))))))))))))))),ghost:=false,post:=false }
 | _=>{}
noncomputable def Zha:AC:=
 (.seq (.reg [oO 3 (.box 100 (oT 1)),oO 4 (.assign (oC 0)),oO 5 (.assign (oC 0))]) (.seq (.seq (.reg [oM 7 0,oO 8 (.nilCheck (oT 7)),oF 9 158 8 0,oL 10 156 9,oN 11 10 156,oO 12 (.binOp .eql 3 (oT 11) (oC 0) 3)]) (.cond (oT 12) (.seq (.reg [oF 13 100 3 3,oL 14 3 13,oA 4 14,oO 5 (.assign (oC 2))]) .ret) .skip)) (.seq (.reg [oM 15 0,oO 16 (.nilCheck (oT 15)),oF 17 158 16 0,oL 18 156 17,oO 19 (oK 121 #[(oT 18)] #[156]),oO 20 (.nilCheck (oT 19)),oL 21 163 20,oO 6 (.alloc 163),oS (.store 163 (oT 6) (oT 21))]) (.seq (.draw [oM 22 0,oM 23 0,oO 24 (.nilCheck (oT 23)),oF 25 158 24 0,oL 26 156 25,oM 27 0,oO 28 (.nilCheck (oT 27)),oF 29 158 28 0,oL 30 156 29,oN 31 30 156,oO 32 (.binOp .sub 3 (oT 31) (oC 1) 3),oO 33 (.slice 156 (oT 26) none (some (oT 32)) none),oO 34 (.nilCheck (oT 22)),oF 35 158 34 0,oS (.store 156 (oT 35) (oT 33))] (.op 0 (.op 1 (.op 2 (.op 3 (.op 4 (.op 5 (.op 6 (.op 7 (.op 8 (.op 9 (.op 10 (.op 11 (.op 12 (.op 13 (.op 14 .done)))))))))))))))) (.seq (.draw [oM 36 0,oO 37 (.nilCheck (oT 36)),oF 38 158 37 1,oL 39 51 38,oF 40 163 6 1,oL 41 3 40,oM 42 0,oO 43 (.nilCheck (oT 42)),oF 44 158 43 1,oL 45 51 44,oN 46 45 51,oF 47 163 6 1,oL 48 3 47,oO 49 (.binOp .sub 3 (oT 46) (oT 48) 3),oI 50 51 39 41,oF 51 103 50 3,oS (.store 3 (oT 51) (oT 49))] (.op 0 (.op 1 (.op 2 (.op 3 (.op 4 (.op 5 (.op 6 (.op 7 (.op 8 (.op 9 (.op 10 (.op 11 (.op 12 (.op 13 (.op 14 (.op 15 (.op 16 .done)))))))))))))))))) (.seq (.seq (.reg [oM 52 0,oL 53 163 6,oO 54 (oK 123 #[(oT 52),(oT 53)] #[114,163]),oO 55 (.unOp .not 4 (oT 54))]) (.cond (oT 55) (.seq (.reg [oF 56 100 3 3,oL 57 3 56,oA 4 57,oO 5 (.assign (oC 2))]) .ret) .skip)) (.seq (.reg [oF 58 100 3 3,oL 59 3 58,oA 4 59,oO 5 (.assign (oC 0))]) .ret)))))))
theorem Xfa:EN Zha [(ResultVar.tmp 4),(ResultVar.tmp 5)] 60 77:=acE Tryz.func77 (ann:=Vda)
def Y1.w (a0_:Zm) (c0_0_:List Zc) (c0_1_:List Za) (c0_2_:List (Xb×Int)) (Q:(Int×Int)→(List Zc)→(List Za)→Prop):Prop:=
 if (c0_0_.length:Int) = 0 then
  Q (a0_.At,2) c0_0_ c0_1_
 else
  (I64 ((c0_0_.length:Int) - 1)) ∧
  (0≤(c0_0_.length:Int) - 1) ∧
  ∃ v1:Zc,c0_0_[((c0_0_.length:Int) - 1).toNat]? = some v1 ∧
  (I64 ((c0_0_.length:Int) - 1)) ∧
  (0≤((c0_0_.length:Int) - 1).toNat∧((c0_0_.length:Int) - 1).toNat≤c0_0_.length) ∧
  (I64 ((c0_1_.length:Int) - v1.at_)) ∧
  (0≤v1.at_) ∧
  ∃ v2:Za,c0_1_[v1.at_.toNat]? = some v2 ∧
  Yz.w v1 (c0_0_.take (((c0_0_.length:Int) - 1).toNat)) (c0_1_.set v1.at_.toNat (⟨v2.Kind,v2.Text,v2.At,(c0_1_.length:Int) - v1.at_⟩:Za)) c0_2_ (fun r1 v3 v4=>
   if (!r1) = true then
    Q (a0_.At,2) v3 v4
   else
    Q (a0_.At,0) v3 v4)
theorem Y1.ok {a0_:Zm} {c0_0_:List Zc} {c0_1_:List Za} {c0_2_:List (Xb×Int)} {Q:(Int×Int)→(List Zc)→(List Za)→Prop} (hm:Y1.w a0_ c0_0_ c0_1_ c0_2_ Q) {h0 h:Hp} {b0_ mc0_2_:Nat} {x0_0_ x0_1_:AV} (H:AM.Own h0 h [⟨x0_0_,false,7,c0_0_.map Zc.enc,some (163,0)⟩,⟨x0_1_,false,4,c0_1_.map Za.enc,some (103,0)⟩,⟨(.optr b0_ 3 0 0),true,3,[[x0_0_,x0_1_,(.val (.map (some mc0_2_)))]],some (158,3)⟩]) (hmc0_2_:h0.r mc0_2_ = some (Yo (c0_2_.map fun p=>(Value.agg #[Value.int .u8 p.1.in_,Value.int .u8 p.1.kind],Value.int .i64 p.2)))):Zo Tryz.prog Jga [(.optr b0_ 3 0 0),(.agg (Zm.enc a0_))] h (fun e h'=>∃ (r:Int×Int) (c0_0':List Zc) (c0_1':List Za) (x0_0_':AV) (x0_1_':AV),e = .ret ((fun r=>.tup [(aint r.1),(aint r.2)]) r)∧AM.Own h0 h' [⟨x0_0_',false,7,c0_0'.map Zc.enc,some (163,0)⟩,⟨x0_1_',false,4,c0_1'.map Za.enc,some (103,0)⟩,⟨(.optr b0_ 3 0 0),true,3,[[x0_0_',x0_1_',(.val (.map (some mc0_2_)))]],some (158,3)⟩]∧Q r c0_0' c0_1'):=by
 refine Xfa ?_
 unfold Y1.w at hm
 try simp -implicitDefEqProofs (disch:=omega) only [push_cast,seval,Zha,H.p 2 rfl]
 refine H.newR (Zm.enc a0_) rfl (fun b1 h1 H=>?_)
 refine sg (ai (H.lenE 0 rfl V1) (ai (H.p 2 rfl) (H.p 3 rfl))) ?_
 refine fkc (fun c1=>?_) fun c1=>?_
 ·replace hm:=ifp hm c1
  refine sg (ai (eq_true c1) (ai (H.p 2 rfl) (H.p 3 rfl))) ?_
  replace H:=H.pm [0,1,2]
  exact Ym (.inl rfl) (x:=(.tup [(aint a0_.At),(aint 2)])) rfl (Zf.refl _ _) ⟨(a0_.At,2),c0_0_,c0_1_,x0_0_,x0_1_,rfl,H,hm⟩
 replace hm:=ifn hm c1
 refine sg (ai (eq_false c1) (ai (H.p 2 rfl) (H.p 3 rfl))) ?_
 refine Z1 (Vv ?_) (fun _ _ h=>h)
 obtain ⟨w1,hm⟩:=hm
 try simp -implicitDefEqProofs (disch:=omega) only [push_cast,seval,Ka,eq_false c1,wrap_i64 _ w1,H.lenE 0 rfl V1,H.lenE 0 rfl V1,H.p 2 rfl,H.p 3 rfl]
 obtain ⟨z1,v1,i1,hm⟩:=hm
 obtain ⟨b2,o1,rfl,qb,qc,qd,qe⟩:=H.row (k:=((c0_0_.length:Int) - 1).toNat) (r:=Zc.enc v1) 0 rfl (gmp i1)
 try rw [List.length_map] at qe
 have q1:=qb
 have q2:=qc
 have q3:=qd
 have q4:=eq_true qe
 rw [List.length_map] at H
 refine sg (ai (eq_false c1) (ai (wrap_i64 _ w1) (ai (eq_true z1) (ai q1 (ai q2 (ai q3 (ai q4 (ai (H.p 2 rfl) (H.p 3 rfl))))))))) ?_
 refine Yx (.inl rfl) rfl ?_
 refine sg (ai (eq_false c1) (ai (wrap_i64 _ w1) (ai (eq_true z1) (ai q1 (ai q2 (ai q3 (ai q4 (ai (H.p 2 rfl) (H.p 3 rfl))))))))) ?_
 refine H.newR [(.val (.int .u8 0)),(aint 0),(aint 0),(aint 0),(Zk false),(aint 0),(aint 0)] rfl (fun b3 h2 H=>?_)
 refine sg (ai (eq_false c1) (ai (wrap_i64 _ w1) (ai (eq_true z1) (ai q1 (ai q2 (ai q3 (ai q4 (ai (H.p 2 rfl) (ai (H.p 3 rfl) (H.p 4 rfl)))))))))) ?_
 refine H.stP 4 (Zc.enc v1) rfl rfl rfl rfl (Nat.le_of_ble_eq_true rfl) rfl (fun h3 H=>?_)
 obtain ⟨w2,w3,hm⟩:=hm
 have F1:=ai (eq_false c1) (ai (wrap_i64 _ w1) (ai (eq_true z1) (wrap_i64 _ w2)))
 refine sg (ai F1 (ai q1 (ai q2 (ai q3 (ai q4 (ai (H.lenE 0 rfl V1) (ai (H.p 2 rfl) (ai (H.p 3 rfl) (H.p 4 rfl))))))))) ?_
 refine H.slc 0 rfl V1 tab_163 rfl rfl (by simp only [Vy,push_cast,eq_false c1,wrap_i64 _ w1,eq_true z1,q1,q2,q3,q4,wrap_i64 _ w2]) w3.1 (by rw [List.length_map]; exact w3.2) (fun y1 vw1=>?_)
 refine sg (ai F1 (ai q1 (ai q2 (ai q3 (ai q4 (ai (H.p 2 rfl) (ai (H.p 3 rfl) (H.p 4 rfl)))))))) ?_
 replace H:=H.trimV 0 rfl vw1
 rw [← List.map_take] at H
 refine H.stP 2 [y1,x0_1_,(.val (.map (some mc0_2_)))] rfl (H.ok 0 rfl).1 (H.ok 0 rfl).2 rfl (Nat.le_of_ble_eq_true rfl) rfl (fun h4 H=>?_)
 obtain ⟨w4,hm⟩:=hm
 refine sg (ai F1 (ai q1 (ai q2 (ai q3 (ai q4 (ai (wrap_i64 _ w4) (ai (H.lenE 1 rfl tab_51) (ai (H.p 2 rfl) (ai (H.p 3 rfl) (H.p 4 rfl)))))))))) ?_
 obtain ⟨z2,v2,i2,hm⟩:=hm
 obtain ⟨b4,o2,rfl,qb,qc,qd,qe⟩:=H.row (k:=v1.at_.toNat) (r:=Za.enc v2) 1 rfl (gmp i2)
 try rw [List.length_map] at qe
 have q5:=qb
 have q6:=qc
 have q7:=qd
 have q8:=eq_true qe
 rw [List.length_map] at H
 refine sg (ai F1 (ai q1 (ai q2 (ai q3 (ai q4 (ai (wrap_i64 _ w4) (ai (eq_true z2) (ai q5 (ai q6 (ai q7 (ai q8 (ai (H.p 2 rfl) (ai (H.p 3 rfl) (H.p 4 rfl)))))))))))))) ?_
 have i3:=Z0a (⟨v2.Kind,v2.Text,v2.At,(c0_1_.length:Int) - v1.at_⟩:Za) i2
 refine H.stL 1 (⟨v2.Kind,v2.Text,v2.At,(c0_1_.length:Int) - v1.at_⟩:Za) rfl i2 rfl rfl rfl (Nat.le_of_ble_eq_true rfl) rfl (fun h5 H=>?_)
 refine sg (ai F1 (ai q1 (ai q2 (ai q3 (ai q4 (ai (wrap_i64 _ w4) (ai (eq_true z2) (ai q5 (ai q6 (ai q7 (ai q8 (ai (H.p 2 rfl) (ai (H.p 3 rfl) (H.p 4 rfl)))))))))))))) ?_
 obtain ⟨h6,HF1,hB1⟩:=H.frameS [0,1,2] (by decide)
 refine Z1 (Yz.ok hm HF1 (hB1.2.r _ _ hmc0_2_)) ?_
 rintro _ h7 ⟨r1,v3,v4,x1,x2,rfl,H',hm⟩
 replace H:=hB1.1 _ _ rfl H'
 refine sg (ai F1 (ai (wrap_i64 _ w4) (ai (eq_true z2) (ai (H.p 2 rfl) (ai (H.p 3 rfl) (H.p 4 rfl)))))) ?_
 rw [Zw]
 refine ⟨fun c2=>?_,fun c2=>?_⟩
 ·replace hm:=ifp hm c2
  have F2:=ai F1 (ai (wrap_i64 _ w4) (ai (eq_true z2) c2))
  refine sg (ai F2 (ai (H.p 2 rfl) (ai (H.p 3 rfl) (H.p 4 rfl)))) ?_
  replace H:=H.pm [0,1,2]
  exact Ym (.inl rfl) (x:=(.tup [(aint a0_.At),(aint 2)])) rfl (Zf.refl _ _) ⟨(a0_.At,2),v3,v4,x1,x2,rfl,H,hm⟩
 replace hm:=ifn hm (by rw [c2]; exact Bool.false_ne_true)
 have F3:=ai F1 (ai (wrap_i64 _ w4) (ai (eq_true z2) c2))
 refine sg (ai F3 (ai (H.p 2 rfl) (ai (H.p 3 rfl) (H.p 4 rfl)))) ?_
 replace H:=H.pm [0,1,2]
 exact Ym (.inl rfl) (x:=(.tup [(aint a0_.At),(aint 0)])) rfl (Zf.refl _ _) ⟨(a0_.At,0),v3,v4,x1,x2,rfl,H,hm⟩
abbrev n_tree_worse:Nat:=80
noncomputable def Xub:AC:=
 (.seq (.reg [oO 4 (.assign (oC 0))]) (.seq (.seq (.reg [oO 7 (.build 168 #[(0,(oC 2)),(1,(oC 5)),(2,(oC 4))]),oO 8 (.move (oC 0))]) (.block 0 (.loop (.seq (.reg [oO 9 (.binOp .lss 3 (oT 8) (oC 3) 3)]) (.seq (.cond (oT 9) .skip (.exit 0)) (.seq (.block 1 (.seq (.reg [oO 10 (.index 168 (oT 7) (oT 8)),oA 6 10]) (.seq (.reg [oM 11 0,oM 12 6,oO 13 (.binOp .eql 30 (oT 11) (oT 12) 30),oM 14 13,oG 15 14 false (.move (oT 1)),oG 16 14 false (.move (oT 6)),oG 17 14 false (.binOp .eql 30 (oT 15) (oT 16) 30),oO 18 (.pick (oT 14) (.const (.bool true)) (oT 17))]) (.cond (oT 18) (.seq (.reg [oM 19 6,oA 4 19]) .ret) .skip)))) (.reg [oO 20 (.binOp .add 3 (oT 8) (oC 1) 3),oM 8 20]))))))) (.seq (.reg [oO 4 (.assign (oC 0))]) .ret)))
theorem enter_tree_worse:EN Xub [(ResultVar.tmp 4)] 21 80:=acE Tryz.func80 (ann:=Yy)
def Kc.w (a0_:Int) (a1_:Int) (Q:Int→Prop):Prop:=
 X2 (σ:=Int) (fun a1 next1=>
  if a1 < 3 then
   (0≤a1) ∧
   (a1.toNat < 3) ∧
   ∃ v1:Int,([2,5,4]:List Int)[a1.toNat]? = some v1 ∧
   if a0_ = v1 then
    Q v1
   else
    if a1_ = v1 then
     Q v1
    else
     (I64 (a1+1)) ∧
     next1 (a1+1)
  else
   Q 0) 0
theorem Kc.ok {a0_:Int} {a1_:Int} {Q:Int→Prop} (hm:Kc.w a0_ a1_ Q) (h0:Hp):Zo Tryz.prog n_tree_worse [(aint a0_),(aint a1_)] h0 (Back h0 (fun r=>(aint r)) Q):=by
 refine enter_tree_worse ?_
 unfold Kc.w at hm
 have H:=AM.Own.nil h0
 try simp -implicitDefEqProofs (disch:=omega) only [push_cast,seval,Xub,Je]
 obtain ⟨inv1,mu1,hi1,hs1⟩:=hm
 replace H:=H.pm []
 refine Z7 (σ:=Int×Hp) (fun ⟨a1,h1⟩=>⟨((((List.replicate 21 AV.any).set 0 (aint a0_)).set 1 (aint a1_)).set 7 (.agg (([2,5,4]:List Int).map (fun v=>(aint v))))).set 8 (aint a1),h1⟩) (fun ⟨a1,h1⟩=>inv1 a1∧AM.Own h0 h1 []) (fun ⟨a1,h1⟩=>mu1 a1) ⟨0,h0⟩ (rtw) ⟨hi1,H⟩ ?_
 rintro ⟨a1,h1⟩ ⟨hi1,H⟩
 have hm:=hs1 _ hi1
 dsimp only at hm H ⊢
 try simp -implicitDefEqProofs (disch:=omega) only [push_cast,seval,Je]
 refine fkc (fun c1=>?_) fun c1=>?_
 ·replace hm:=ifp hm c1
  obtain ⟨z1,z2,v1,i1,hm⟩:=hm
  have q1:=arrLit (f:=(fun v=>AV.val (Value.int IntKind.i64 v))) i1
  simp only [List.map_cons,List.map_nil] at q1
  try simp -implicitDefEqProofs (disch:=omega) only [push_cast,seval,Je,eq_true c1,eq_true z1,eq_true z2,Kca i1,i1,Option.map_some,We,q1]
  refine gfk' (fun c2=>?_) fun c2=>?_
  ·replace hm:=ifp hm c2
   have F1:=ai (eq_true c1) (ai (eq_true z1) (ai (eq_true z2) (ai i1 (eq_true c2))))
   try simp -implicitDefEqProofs (disch:=omega) only [push_cast,seval,F1,Je,Kca i1,Option.map_some,We,q1]
   exact Zb (.inl rfl) v1 _ rfl (Zf.refl _ _) H.sub hm
  replace hm:=ifn hm c2
  have F2:=ai (eq_true c1) (ai (eq_true z1) (ai (eq_true z2) (ai i1 (eq_false c2))))
  try simp -implicitDefEqProofs (disch:=omega) only [push_cast,seval,F2,Je,Kca i1,Option.map_some,We,q1]
  refine fkc (fun c3=>?_) fun c3=>?_
  ·replace hm:=ifp hm c3
   try simp -implicitDefEqProofs (disch:=omega) only [push_cast,seval,F2,Je,Kca i1,Option.map_some,We,q1,eq_true c3]
   exact Zb (.inl rfl) v1 _ rfl (Zf.refl _ _) H.sub hm
  replace hm:=ifn hm c3
  obtain ⟨w1,hm⟩:=hm
  try simp -implicitDefEqProofs (disch:=omega) only [push_cast,seval,F2,Je,Kca i1,Option.map_some,We,q1,eq_false c3,wrap_i64 _ w1]
  replace H:=H.pm []
  exact ⟨⟨a1+1,h1⟩,hm.2,⟨hm.1,H⟩,rtw⟩
 replace hm:=ifn hm c1
 try simp -implicitDefEqProofs (disch:=omega) only [push_cast,seval,Je,eq_false c1]
 exact Zb (.inl rfl) 0 _ rfl (Zf.refl _ _) H.sub hm
end Go.Proofs.YtpkhmfedaaoalaaGreatDoor
