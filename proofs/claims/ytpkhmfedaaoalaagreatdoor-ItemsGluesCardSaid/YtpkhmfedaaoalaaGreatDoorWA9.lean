/- ItemsGlues: a part of its proof (packed by a program). -/
import Derived.Test.YtpkhmfedaaoalaaGreatDoorPrs
import Derived.Test.YtpkhmfedaaoalaaGreatDoorWA4
import Derived.Test.YtpkhmfedaaoalaaGreatDoorWA5
import Derived.Test.YtpkhmfedaaoalaaGreatDoorWA6
import Derived.Test.YtpkhmfedaaoalaaGreatDoorWA7
import Derived.Test.YtpkhmfedaaoalaaGreatDoorWA8
set_option linter.all false
namespace Go.Proofs.YtpkhmfedaaoalaaGreatDoor
open Go Go.Proofs.YtpkhmfedaaoalaaGreatDoor.AM
set_option maxRecDepth 100000
set_option maxHeartbeats 4000000
noncomputable def Xxb:AC:=
 (.seq (.reg [oO 0 (.assign (.const (.pointer none)))]) (.seq (.reg [oO 1 (oK 118 #[] #[]),oO 2 (.build 158 #[(2,(oT 1))]),oO 3 (.box 158 (oT 2)),oA 0 3]) .ret))
theorem enter_tree_begin:EN Xxb [(ResultVar.tmp 0)] 4 74:=acE Tryz.func74 (ann:=Yy)
abbrev n_tree_Check:Nat:=41
def ann_tree_Check:Nat→Ann
 | 11=>{ pure:=[],plan:=(.op 0 (.op 1 (.op 2 (.op 3 (.op 4 (.op 5 (.op 6 (.op 7 (.op 8 (.op 9 (.op 10 .done))))))))))),ghost:=false,post:=false }
 | _=>{}
noncomputable def ac_tree_Check_c2:AC:=
 (.seq (.draw [oF 43 100 7 0,oL 44 3 43,oI 45 117 4 44,oL 46 116 45,oL 47 100 7,oO 48 (.call (.mk (.value (oT 46)) #[(oT 47)] #[100])),oM 42 48,oO 49 (.extract (oT 42) 0),oO 50 (.extract (oT 42) 1),oA 8 49,oA 9 50] (.op 0 (.op 1 (.op 2 (.op 3 (.op 4 (.op 5 (.op 6 (.op 7 (.op 8 (.op 9 (.op 10 .done)))))))))))) (.seq (.reg [oM 51 5,oM 52 9,oO 53 (oK 80 #[(oT 51),(oT 52)] #[30,30]),oA 5 53]) (.seq (.reg [oM 54 5,oO 55 (.binOp .eql 30 (oT 54) (oC 2) 30)]) (.cond (oT 55) (.seq (.reg [oM 56 5,oA 2 56]) .ret) .skip))))
noncomputable def ac_tree_Check_c1:AC:=
 (.seq (.seq (.reg [oF 34 100 7 0,oL 35 3 34,oO 36 (.binOp .eql 3 (oT 35) (oC 1) 3),oM 37 36,oG 38 37 true (.move (oT 3)),oG 39 37 true (oK 79 #[(oT 38),(oD 46)] #[114,5]),oG 40 37 true (.unOp .not 4 (oT 39)),oO 41 (.pick (oT 37) (oT 40) (.const (.bool false)))]) (.cond (oT 41) (.seq (.reg [oO 2 (.assign (oC 2))]) .ret) .skip)) ac_tree_Check_c2)
noncomputable def Xyb:AC:=
 (.seq (.reg [oO 2 (.assign (oC 0))]) (.seq (.seq (.reg [oM 10 0,oO 11 (oK 70 #[(oT 10),(.func 71)] #[51,112]),oM 12 11,oG 13 12 false (.move (oT 0)),oG 14 12 false (.move (oT 0)),oG 15 12 false (.call (.mk (.builtin .len) #[(oT 14)] #[51])),oG 16 12 false (oK 73 #[(oT 13),(oC 0),(oT 15)] #[51,3,3]),oG 17 12 false (.unOp .not 4 (oT 16)),oO 18 (.pick (oT 12) (.const (.bool true)) (oT 17))]) (.cond (oT 18) (.seq (.reg [oO 2 (.assign (oC 2))]) .ret) .skip)) (.seq (.reg [oO 19 (oK 74 #[] #[]),oA 3 19]) (.seq (.reg [oM 20 3,oO 21 (.makeFunc (Fn.func 75) #[(oT 20)] #[]),oM 22 3,oO 23 (.makeFunc (Fn.func 76) #[(oT 22)] #[]),oM 24 3,oO 25 (.makeFunc (Fn.func 77) #[(oT 24)] #[]),oO 26 (.build 117 #[(1,(oT 21)),(2,(oT 23)),(3,(oT 25))]),oO 4 (.alloc 117),oS (.store 117 (oT 4) (oT 26))]) (.seq (.reg [oO 5 (.assign (oC 0))]) (.seq (.seq (.reg [oM 27 0,oO 28 (oK 78 #[(oT 27)] #[51]),oN 29 28 91,oO 30 (.move (oC 0))]) (.block 0 (.loop (.seq (.reg [oO 31 (.binOp .lss 3 (oT 30) (oT 29) 3)]) (.seq (.cond (oT 31) .skip (.exit 0)) (.seq (.block 1 (.seq (.reg [oI 32 91 28 30,oL 33 100 32,oO 7 (.alloc 100),oS (.store 100 (oT 7) (oT 33))]) ac_tree_Check_c1)) (.reg [oO 57 (.binOp .add 3 (oT 30) (oC 1) 3),oM 30 57]))))))) (.seq (.reg [oM 58 5,oA 2 58]) .ret)))))))
theorem enter_tree_Check:EN Xyb [(ResultVar.tmp 2)] 59 41:=acE Tryz.func41 (ann:=ann_tree_Check)
def Vo.w (a0_:List Za) (Q:Int→Prop):Prop:=
 Zu.w a0_ (fun r1=>
  if r1 = true then
   Q 2
  else
   Xk.w a0_ 0 (a0_.length:Int) (fun r2=>
    if (!r2) = true then
     Q 2
    else
     K3.w a0_ (fun r3=>
      X2 (σ:=(List Zc)×(List Za)×Int×Int) (fun ⟨a1,a2,a3,a4⟩ next1=>
       if a4 < (r3.length:Int) then
        (0≤a4) ∧
        ∃ v1:Zm,r3[a4.toNat]? = some v1 ∧
        wcut (α:=(List Zc)×(List Za)) (fun k1=>
         if v1.Kind = 1 then
          Yi.w 46 a1 a2 Vd (fun r4 v2 v3=>
           if (!r4) = true then
            Q 2
           else
            k1 (v2,v3))
         else
          k1 (a1,a2)) (fun ⟨a5,a6⟩=>
         wcut (α:=(List Zc)×(List Za)×Int) (fun k2=>
          if v1.Kind = 1 then
           Y0.w v1 a5 a6 Vd (fun r5 v4 v5=>
            k2 (v4,v5,r5.2))
          else
           if v1.Kind = 2 then
            Y2.w v1 a5 a6 Vd (fun r6 v6 v7=>
             k2 (v6,v7,r6.2))
           else
            if v1.Kind = 3 then
             Y1.w v1 a5 a6 Vd (fun r7 v8 v9=>
              k2 (v8,v9,r7.2))
            else
             False) (fun ⟨a7,a8,a9⟩=>
          Kc.w a3 a9 (fun r8=>
           if r8 = 2 then
            Q r8
           else
            (I64 (a4+1)) ∧
            next1 (a7,a8,r8,a4+1))))
       else
        Q a3) (([]:List Zc),([]:List Za),0,0))))
theorem Vo.ok {a0_:List Za} {Q:Int→Prop} (hm:Vo.w a0_ Q) (h0:Hp):Zo Tryz.prog n_tree_Check [(.isl 4 (a0_.map Za.enc))] h0 (Back h0 (fun r=>(aint r)) Q):=by
 refine enter_tree_Check ?_
 unfold Vo.w at hm
 have H:=AM.Own.nil h0
 try simp -implicitDefEqProofs (disch:=omega) only [push_cast,seval,Xyb]
 refine Zn (fun h=>Zu.ok hm h) (fun r1 hm=>?_)
 refine sg0 ?_
 rw [Xh]
 refine ⟨fun c1=>?_,fun c1=>?_⟩
 ·replace hm:=ifp hm c1
  refine sg c1 ?_
  exact Zb (.inl rfl) 2 _ rfl (Zf.refl _ _) H.sub hm
 replace hm:=ifn hm (by rw [c1]; exact Bool.false_ne_true)
 refine sg c1 ?_
 refine Zn (fun h=>Xk.ok hm h) (fun r2 hm=>?_)
 refine sg c1 ?_
 rw [Zw]
 refine ⟨fun c2=>?_,fun c2=>?_⟩
 ·replace hm:=ifp hm c2
  refine sg (ai c1 c2) ?_
  exact Zb (.inl rfl) 2 _ rfl (Zf.refl _ _) H.sub hm
 replace hm:=ifn hm (by rw [c2]; exact Bool.false_ne_true)
 refine sg (ai c1 c2) ?_
 refine Z1 (enter_tree_begin ?_) (fun _ _ h=>h)
 try simp -implicitDefEqProofs (disch:=omega) only [push_cast,seval,Xxb,c1,c2]
 refine Z1 (pairs_ok H) ?_
 rintro _ h1 ⟨b1,rfl,hD,H⟩
 replace hD:Xf h0 [(b1,Yo (Vd.map fun p=>(Value.agg #[Value.int .u8 p.1.in_,Value.int .u8 p.1.kind],Value.int .i64 p.2)))]:=hD
 replace H:AM.Own (h0.addR [(b1,Yo (Vd.map fun p=>(Value.agg #[Value.int .u8 p.1.in_,Value.int .u8 p.1.kind],Value.int .i64 p.2)))]) h1 []:=H
 refine sg (ai c1 c2) ?_
 refine H.newR [anil,anil,(.val (.map (some b1)))] rfl (fun b2 h2 H=>?_)
 refine sg (ai c1 (ai c2 (H.p 0 rfl))) ?_
 refine Yx (.inl rfl) rfl ?_
 refine sg (ai c1 (ai c2 (H.p 0 rfl))) ?_
 refine H.newR [(.val .nilFunc),(.val .nilFunc),(.val .nilFunc),(.val .nilFunc)] rfl (fun b3 h3 H=>?_)
 refine sg (ai c1 (ai c2 (ai (H.p 0 rfl) (H.p 1 rfl)))) ?_
 refine H.stP 1 [(.val .nilFunc),(.fn (.func 75) [(.optr b2 3 0 0)] []),(.fn (.func 76) [(.optr b2 3 0 0)] []),(.fn (.func 77) [(.optr b2 3 0 0)] [])] rfl rfl rfl rfl (Nat.le_of_ble_eq_true rfl) rfl (fun h4 H=>?_)
 refine sg (ai c1 (ai c2 (ai (H.p 0 rfl) (H.p 1 rfl)))) ?_
 refine Zn (fun h=>K3.ok hm h) (fun r3 hm=>?_)
 refine sg (ai c1 (ai c2 (ai (H.p 0 rfl) (H.p 1 rfl)))) ?_
 obtain ⟨inv1,mu1,hi1,hs1⟩:=hm
 replace H:=H.addNil 7 (some (163,0))
 replace H:=H.addNil 4 (some (103,0))
 replace H:=H.pm [0,1,2,3]
 refine Z7 (σ:=((List Zc)×(List Za)×Int×Int)×AV×AV×Hp) (fun ⟨⟨a1,a2,a3,a4⟩,x1,x2,h5⟩=>⟨((((((List.replicate 59 AV.any).set 3 (.optr b2 3 0 0)).set 4 (.optr b3 4 0 0)).set 5 (aint a3)).set 28 (.isl 4 (r3.map Zm.enc))).set 29 (aint (r3.length:Int))).set 30 (aint a4),h5⟩) (fun ⟨⟨a1,a2,a3,a4⟩,x1,x2,h5⟩=>inv1 (a1,a2,a3,a4)∧Xf h0 [(b1,Yo (Vd.map fun p=>(Value.agg #[Value.int .u8 p.1.in_,Value.int .u8 p.1.kind],Value.int .i64 p.2)))]∧AM.Own (h0.addR [(b1,Yo (Vd.map fun p=>(Value.agg #[Value.int .u8 p.1.in_,Value.int .u8 p.1.kind],Value.int .i64 p.2)))]) h5 [⟨(.optr b2 3 0 0),true,3,[[x1,x2,(.val (.map (some b1)))]],some (158,3)⟩,⟨(.optr b3 4 0 0),true,4,[[(.val .nilFunc),(.fn (.func 75) [(.optr b2 3 0 0)] []),(.fn (.func 76) [(.optr b2 3 0 0)] []),(.fn (.func 77) [(.optr b2 3 0 0)] [])]],some (117,4)⟩,⟨x1,false,7,a1.map Zc.enc,some (163,0)⟩,⟨x2,false,4,a2.map Za.enc,some (103,0)⟩]) (fun ⟨⟨a1,a2,a3,a4⟩,x1,x2,h5⟩=>mu1 (a1,a2,a3,a4)) ⟨(([]:List Zc),([]:List Za),0,0),anil,anil,h4⟩ (rtw) ⟨hi1,hD,H⟩ ?_
 rintro ⟨⟨a1,a2,a3,a4⟩,x1,x2,h5⟩ ⟨hi1,hD,H⟩
 have hm:=hs1 _ hi1
 dsimp only at hm H ⊢
 refine sg (ai c1 (ai c2 (ai (H.p 0 rfl) (H.p 1 rfl)))) ?_
 refine fkc (fun c3=>?_) fun c3=>?_
 ·replace hm:=ifp hm c3
  obtain ⟨z1,v1,i1,hm⟩:=hm
  refine sg (ai c1 (ai c2 (ai (eq_true c3) (ai (eq_true z1) (ai i1 (ai (H.p 0 rfl) (H.p 1 rfl))))))) ?_
  refine H.newR [(aint 0),(.val (.int .u8 0)),(astr (ByteArray.mk #[])),(aint 0)] rfl (fun b4 h6 H=>?_)
  refine sg (ai c1 (ai c2 (ai (eq_true c3) (ai (eq_true z1) (ai i1 (ai (H.p 0 rfl) (ai (H.p 1 rfl) (H.p 4 rfl)))))))) ?_
  refine H.stP 4 (Zm.enc v1) rfl rfl rfl rfl (Nat.le_of_ble_eq_true rfl) rfl (fun h7 H=>?_)
  refine sg (ai c1 (ai c2 (ai (eq_true c3) (ai (eq_true z1) (ai i1 (ai (H.p 0 rfl) (ai (H.p 1 rfl) (H.p 4 rfl)))))))) ?_
  obtain ⟨k1,hm,hk1⟩:=Yn hm
  obtain ⟨M1,hM1⟩:∃ M:AM.St→Prop,M = (fun s'=>∃ (a5:List Zc) (a6:List Za) (x3:AV) (x4:AV) (h8:Hp),Like s'.tm ((((((((List.replicate 59 none).set 3 (some (.optr b2 3 0 0))).set 4 (some (.optr b3 4 0 0))).set 5 (some (aint a3))).set 7 (some (.optr b4 4 0 0))).set 28 (some (.isl 4 (r3.map Zm.enc)))).set 29 (some (aint (r3.length:Int)))).set 30 (some (aint a4)))∧s'.h = h8∧Xf h0 [(b1,Yo (Vd.map fun p=>(Value.agg #[Value.int .u8 p.1.in_,Value.int .u8 p.1.kind],Value.int .i64 p.2)))]∧AM.Own (h0.addR [(b1,Yo (Vd.map fun p=>(Value.agg #[Value.int .u8 p.1.in_,Value.int .u8 p.1.kind],Value.int .i64 p.2)))]) h8 [⟨(.optr b2 3 0 0),true,3,[[x3,x4,(.val (.map (some b1)))]],some (158,3)⟩,⟨(.optr b3 4 0 0),true,4,[[(.val .nilFunc),(.fn (.func 75) [(.optr b2 3 0 0)] []),(.fn (.func 76) [(.optr b2 3 0 0)] []),(.fn (.func 77) [(.optr b2 3 0 0)] [])]],some (117,4)⟩,⟨x3,false,7,a5.map Zc.enc,some (163,0)⟩,⟨x4,false,4,a6.map Za.enc,some (103,0)⟩,⟨(.optr b4 4 0 0),true,4,[(Zm.enc v1)],some (100,4)⟩]∧k1 (a5,a6)):=⟨_,rfl⟩
  refine Xe M1 ?_ ?_
  ·refine sg (ai c1 (ai c2 (ai (eq_true c3) (ai (eq_true z1) (ai i1 (ai (H.p 0 rfl) (ai (H.p 1 rfl) (H.p 4 rfl)))))))) ?_
   refine gfk (fun c4=>?_) fun c4=>?_
   ·replace hm:=ifp hm c4
    have F1:=ai c1 (ai c2 (ai (eq_true c3) (ai (eq_true z1) (ai i1 (eq_true c4)))))
    refine sg (ai F1 (ai (H.p 0 rfl) (ai (H.p 1 rfl) (H.p 4 rfl)))) ?_
    obtain ⟨h9,HF1,hB1⟩:=H.frameS [2,3,0] (by decide)
    refine Z1 (Yi.ok hm HF1 (hB1.2.r _ _ (addR_at hD 0 rfl))) ?_
    rintro _ h10 ⟨r4,v2,v3,x5,x6,rfl,H',hm⟩
    replace H:=hB1.1 _ _ rfl H'
    refine sg (ai F1 (ai (H.p 0 rfl) (ai (H.p 1 rfl) (H.p 4 rfl)))) ?_
    rw [Zw]
    refine ⟨fun c5=>?_,fun c5=>?_⟩
    ·replace hm:=ifp hm c5
     refine sg (ai F1 (ai c5 (ai (H.p 0 rfl) (ai (H.p 1 rfl) (H.p 4 rfl))))) ?_
     exact Zb (.inl rfl) 2 _ rfl (Zf.refl _ _) (Ownr.sub ⟨hD,H⟩) hm
    replace hm:=ifn hm (by rw [c5]; exact Bool.false_ne_true)
    refine sg (ai F1 (ai c5 (ai (H.p 0 rfl) (ai (H.p 1 rfl) (H.p 4 rfl))))) ?_
    replace H:=H.pm [0,1,2,3,4]
    subst hM1
    exact ⟨v2,v3,x5,x6,h10,lkt,rfl,hD,H,hm⟩
   replace hm:=ifn hm c4
   have F2:=ai c1 (ai c2 (ai (eq_true c3) (ai (eq_true z1) (ai i1 (eq_false c4)))))
   refine sg (ai F2 (ai (H.p 0 rfl) (ai (H.p 1 rfl) (H.p 4 rfl)))) ?_
   replace H:=H.pm [0,1,2,3,4]
   subst hM1
   exact ⟨a1,a2,x1,x2,h7,lkt,rfl,hD,H,hm⟩
  subst hM1
  rintro ⟨tm,h8⟩ ⟨a5,a6,x3,x4,_,hL,rfl,hD,H,hm⟩
  dsimp only at hL H
  obtain ⟨D,rfl⟩:=hL.fill 0
  replace hm:=hk1 _ hm
  refine sg (ai c1 (ai c2 (ai (eq_true c3) (ai (eq_true z1) (ai i1 (ai (H.p 0 rfl) (ai (H.p 1 rfl) (H.p 4 rfl)))))))) ?_
  obtain ⟨k2,hm,hk2⟩:=Yn hm
  obtain ⟨M2,hM2⟩:∃ M:AM.St→Prop,M = (fun s'=>∃ (a7:List Zc) (a8:List Za) (a9:Int) (x7:AV) (x8:AV) (h11:Hp),Like s'.tm ((((((((List.replicate 59 none).set 3 (some (.optr b2 3 0 0))).set 4 (some (.optr b3 4 0 0))).set 5 (some (aint a3))).set 9 (some (aint a9))).set 28 (some (.isl 4 (r3.map Zm.enc)))).set 29 (some (aint (r3.length:Int)))).set 30 (some (aint a4)))∧s'.h = h11∧Xf h0 [(b1,Yo (Vd.map fun p=>(Value.agg #[Value.int .u8 p.1.in_,Value.int .u8 p.1.kind],Value.int .i64 p.2)))]∧AM.Own (h0.addR [(b1,Yo (Vd.map fun p=>(Value.agg #[Value.int .u8 p.1.in_,Value.int .u8 p.1.kind],Value.int .i64 p.2)))]) h11 [⟨(.optr b2 3 0 0),true,3,[[x7,x8,(.val (.map (some b1)))]],some (158,3)⟩,⟨(.optr b3 4 0 0),true,4,[[(.val .nilFunc),(.fn (.func 75) [(.optr b2 3 0 0)] []),(.fn (.func 76) [(.optr b2 3 0 0)] []),(.fn (.func 77) [(.optr b2 3 0 0)] [])]],some (117,4)⟩,⟨x7,false,7,a7.map Zc.enc,some (163,0)⟩,⟨x8,false,4,a8.map Za.enc,some (103,0)⟩]∧k2 (a7,a8,a9)):=⟨_,rfl⟩
  refine Xe M2 ?_ ?_
  ·by_cases c6:v1.Kind = 1
   ·replace hm:=ifp hm c6
    have c6a:0≤v1.Kind:=by omega
    have c6b:v1.Kind.toNat = 1:=by omega
    have F3:=ai c1 (ai c2 (ai (eq_true c3) (ai (eq_true z1) (ai i1 (ai (eq_true c6a) c6b)))))
    refine sg (ai F3 (ai (H.p 0 rfl) (ai (H.p 1 rfl) (H.p 4 rfl)))) ?_
    obtain ⟨h12,HF2,hB2⟩:=H.frameS [2,3,0] (by decide)
    refine Z1 (Y0.ok hm HF2 (hB2.2.r _ _ (addR_at hD 0 rfl))) ?_
    rintro _ h13 ⟨r5,v4,v5,x9,x10,rfl,H',hm⟩
    replace H:=hB2.1 _ _ rfl H'
    refine sg (ai F3 (ai (H.p 0 rfl) (ai (H.p 1 rfl) (H.p 4 rfl)))) ?_
    replace H:=H.pm [0,1,2,3]
    subst hM2
    exact ⟨v4,v5,r5.2,x9,x10,h13,lkt,rfl,hD,H,hm⟩
   ·replace hm:=ifn hm c6
    by_cases c7:v1.Kind = 2
    ·replace hm:=ifp hm c7
     have c7a:0≤v1.Kind:=by omega
     have c7b:v1.Kind.toNat = 2:=by omega
     have F4:=ai c1 (ai c2 (ai (eq_true c3) (ai (eq_true z1) (ai i1 (ai (eq_true c7a) c7b)))))
     refine sg (ai F4 (ai (H.p 0 rfl) (ai (H.p 1 rfl) (H.p 4 rfl)))) ?_
     obtain ⟨h14,HF3,hB3⟩:=H.frameS [2,3,0] (by decide)
     refine Z1 (Y2.ok hm HF3 (hB3.2.r _ _ (addR_at hD 0 rfl))) ?_
     rintro _ h15 ⟨r6,v6,v7,x11,x12,rfl,H',hm⟩
     replace H:=hB3.1 _ _ rfl H'
     refine sg (ai F4 (ai (H.p 0 rfl) (ai (H.p 1 rfl) (H.p 4 rfl)))) ?_
     replace H:=H.pm [0,1,2,3]
     subst hM2
     exact ⟨v6,v7,r6.2,x11,x12,h15,lkt,rfl,hD,H,hm⟩
    ·replace hm:=ifn hm c7
     by_cases c8:v1.Kind = 3
     ·replace hm:=ifp hm c8
      have c8a:0≤v1.Kind:=by omega
      have c8b:v1.Kind.toNat = 3:=by omega
      have F5:=ai c1 (ai c2 (ai (eq_true c3) (ai (eq_true z1) (ai i1 (ai (eq_true c8a) c8b)))))
      refine sg (ai F5 (ai (H.p 0 rfl) (ai (H.p 1 rfl) (H.p 4 rfl)))) ?_
      obtain ⟨h16,HF4,hB4⟩:=H.frameS [2,3,0] (by decide)
      refine Z1 (Y1.ok hm HF4 (hB4.2.r _ _ (addR_at hD 0 rfl))) ?_
      rintro _ h17 ⟨r7,v8,v9,x13,x14,rfl,H',hm⟩
      replace H:=hB4.1 _ _ rfl H'
      refine sg (ai F5 (ai (H.p 0 rfl) (ai (H.p 1 rfl) (H.p 4 rfl)))) ?_
      replace H:=H.pm [0,1,2,3]
      subst hM2
      exact ⟨v8,v9,r7.2,x13,x14,h17,lkt,rfl,hD,H,hm⟩
     ·replace hm:=ifn hm c8
      exact hm.elim
  subst hM2
  rintro ⟨tm,h11⟩ ⟨a7,a8,a9,x7,x8,_,hL,rfl,hD,H,hm⟩
  dsimp only at hL H
  obtain ⟨D,rfl⟩:=hL.fill 0
  replace hm:=hk2 _ hm
  refine sg (ai c1 (ai c2 (ai (eq_true c3) (ai (eq_true z1) (ai i1 (ai (H.p 0 rfl) (H.p 1 rfl))))))) ?_
  refine Zn (fun h=>Kc.ok hm h) (fun r8 hm=>?_)
  refine sg (ai c1 (ai c2 (ai (eq_true c3) (ai (eq_true z1) (ai i1 (ai (H.p 0 rfl) (H.p 1 rfl))))))) ?_
  refine fkc (fun c9=>?_) fun c9=>?_
  ·replace hm:=ifp hm c9
   have F6:=ai c1 (ai c2 (ai (eq_true c3) (ai (eq_true z1) (ai i1 (eq_true c9)))))
   refine sg (ai F6 (ai (H.p 0 rfl) (H.p 1 rfl))) ?_
   exact Zb (.inl rfl) r8 _ rfl (Zf.refl _ _) (Ownr.sub ⟨hD,H⟩) hm
  replace hm:=ifn hm c9
  obtain ⟨w1,hm⟩:=hm
  have F7:=ai c1 (ai c2 (ai (eq_true c3) (ai (eq_true z1) (ai i1 (ai (eq_false c9) (wrap_i64 _ w1))))))
  refine sg (ai F7 (ai (H.p 0 rfl) (H.p 1 rfl))) ?_
  replace H:=H.pm [0,1,2,3]
  exact ⟨⟨(a7,a8,r8,a4+1),x7,x8,h11⟩,hm.2,⟨hm.1,hD,H⟩,rtw⟩
 replace hm:=ifn hm c3
 refine sg (ai c1 (ai c2 (ai (eq_false c3) (ai (H.p 0 rfl) (H.p 1 rfl))))) ?_
 exact Zb (.inl rfl) a3 _ rfl (Zf.refl _ _) (Ownr.sub ⟨hD,H⟩) hm
abbrev Yxb:Nat:=124
def ann_norm_packed:Nat→Ann
 | 12=>{ pure:=[],plan:=(.op 0 (.op 1 (.op 2 (.op 3 (.op 4 (.op 5 (.op 6 (.op 7 (.op 8 (.op 9 (.op 10 (.op 11 (.op 12 .done))))))))))))),ghost:=false,post:=false }
 | _=>{}
noncomputable def ac_norm_packed_c1:AC:=
 (.seq (.reg [oF 45 103 9 1,oL 46 9 45,oO 47 (.binOp .neq 9 (oT 46) (.const (.string (ByteArray.mk #[]))) 9),oM 48 47,oG 49 48 true (.move (oT 8)),oO 50 (.pick (oT 48) (oT 49) (.const (.bool false))),oA 44 50]) (.cond (oT 44) (.draw [oM 51 7,oM 52 7,oN 53 52 51,oO 54 (.binOp .sub 3 (oT 53) (oC 1) 3),oI 55 51 51 54,oF 56 103 55 1,oL 57 9 56,oF 58 103 9 1,oL 59 9 58,oO 60 (.binOp .add 9 (oT 57) (oT 59) 9),oI 61 51 51 54,oF 62 103 61 1,oS (.store 9 (oT 62) (oT 60))] (.op 0 (.op 1 (.op 2 (.op 3 (.op 4 (.op 5 (.op 6 (.op 7 (.op 8 (.op 9 (.op 10 (.op 11 (.op 12 .done)))))))))))))) (.seq (.reg [oF 64 103 9 1,oL 65 9 64,oO 66 (.binOp .neq 9 (oT 65) (.const (.string (ByteArray.mk #[]))) 9),oA 63 66]) (.cond (oT 63) (.seq (.reg [oM 67 7,oL 68 103 9,oO 69 (.buildSlice 51 1 #[(0,(oT 68))]),oO 70 (.call (.mk (.builtin .append) #[(oT 67),(oT 69)] #[51,51])),oA 7 70]) (.reg [oO 8 (.assign (.const (.bool true)))])) .skip))))
noncomputable def J7a:AC:=
 (.seq (.reg [oO 6 (.assign (.const (.slice none 0 0)))]) (.seq (.reg [oO 7 (.assign (.const (.slice none 0 0)))]) (.seq (.reg [oO 8 (.assign (.const (.bool false)))]) (.seq (.block 0 (.loop (.seq (.seq (.reg [oM 11 1,oM 12 2,oO 13 (.binOp .lss 3 (oT 11) (oT 12) 3)]) (.cond (oT 13) .skip (.exit 0))) (.block 1 (.seq (.reg [oM 14 0,oM 15 1,oI 16 51 14 15,oL 17 103 16,oO 9 (.alloc 103),oS (.store 103 (oT 9) (oT 17))]) (.seq (.reg [oM 18 0,oM 19 1,oO 20 (.binOp .add 3 (oT 19) (oC 1) 3),oM 21 1,oF 22 103 9 3,oL 23 3 22,oO 24 (.binOp .add 3 (oT 21) (oT 23) 3),oO 25 (oK 124 #[(oT 18),(oT 20),(oT 24)] #[51,3,3]),oA 10 25]) (.seq (.reg [oM 26 1,oF 27 103 9 3,oL 28 3 27,oO 29 (.binOp .add 3 (oT 26) (oT 28) 3),oA 1 29]) (.block 2 (.seq (.reg [oF 31 103 9 0,oL 32 5 31,oO 33 (.binOp .neq 5 (oT 32) (oD 46) 5),oA 30 33]) (.cond (oT 30) (.seq (.reg [oM 34 10,oN 35 34 51,oO 36 (.binOp .add 3 (oT 35) (oC 1) 3),oF 37 103 9 3,oS (.store 3 (oT 37) (oT 36))]) (.seq (.reg [oM 38 7,oL 39 103 9,oO 40 (.buildSlice 51 1 #[(0,(oT 39))]),oO 41 (.call (.mk (.builtin .append) #[(oT 38),(oT 40)] #[51,51])),oM 42 10,oO 43 (.call (.mk (.builtin .append) #[(oT 41),(oT 42)] #[51,51])),oA 7 43]) (.reg [oO 8 (.assign (.const (.bool false)))]))) ac_norm_packed_c1)))))))))) (.seq (.reg [oM 71 7,oA 6 71]) .ret)))))
theorem enter_norm_packed:EN J7a [(ResultVar.tmp 6)] 72 124:=acE Tryz.func124 (ann:=ann_norm_packed)
def Y9.wn:Nat→(List Za)→Int→Int→((List Za)→Prop)→Prop
 | 0,_,_,_,_=>False
 | k+1,a0_,a1_,a2_,Q=>
  X2 (σ:=Int×(List Za)×Bool) (fun ⟨a1,a2,a3⟩ next1=>
   if a1 < a2_ then
    (0≤a1) ∧
    ∃ v1:Za,a0_[a1.toNat]? = some v1 ∧
    (I64 (a1+1)) ∧
    (I64 (a1+v1.Size)) ∧
    Y9.wn k a0_ (a1+1) (a1+v1.Size) (fun r1=>
     (I64 (a1+v1.Size)) ∧
     if v1.Kind = 46 then
      wcut (α:=Bool) (fun k1=>
       if v1.Text = (ByteArray.mk #[]) then
        k1 false
       else
        k1 a3) (fun a4=>
       if a4 = true then
        (I64 ((a2.length:Int) - 1)) ∧
        (0≤(a2.length:Int) - 1) ∧
        ∃ v2:Za,a2[((a2.length:Int) - 1).toNat]? = some v2 ∧
        (v2.Text.size+v1.Text.size≤9223372036854775807) ∧
        next1 (a1+v1.Size,a2.set (((a2.length:Int) - 1).toNat) (⟨v2.Kind,v2.Text++v1.Text,v2.At,v2.Size⟩:Za),a3)
       else
        if v1.Text = (ByteArray.mk #[]) then
         next1 (a1+v1.Size,a2,a3)
        else
         ((a2.length+([v1]:List Za).length) * 40≤140737488355328) ∧
         next1 (a1+v1.Size,a2++([v1]:List Za),true))
     else
      (I64 ((r1.length:Int)+1)) ∧
      ((a2.length+([(⟨v1.Kind,v1.Text,v1.At,(r1.length:Int)+1⟩:Za)]:List Za).length) * 40≤140737488355328) ∧
      (((a2++([(⟨v1.Kind,v1.Text,v1.At,(r1.length:Int)+1⟩:Za)]:List Za)).length+r1.length) * 40≤140737488355328) ∧
      next1 (a1+v1.Size,(a2++([(⟨v1.Kind,v1.Text,v1.At,(r1.length:Int)+1⟩:Za)]:List Za))++r1,false))
   else
    Q a2) (a1_,([]:List Za),false)
def Y9.w (a0_:List Za) (a1_:Int) (a2_:Int) (Q:(List Za)→Prop):Prop:=∃ k,Y9.wn k a0_ a1_ a2_ Q
theorem Y9.okn:∀ (k:Nat) (a0_:List Za) (a1_:Int) (a2_:Int) (Q:(List Za)→Prop) (hm:Y9.wn k a0_ a1_ a2_ Q) (h0:Hp),Zo Tryz.prog Yxb [(.isl 4 (a0_.map Za.enc)),(aint a1_),(aint a2_)] h0 (Back h0 (fun r=>(.isl 4 (r.map Za.enc))) Q)
 | 0,_,_,_,_,hm,_=>hm.elim
 | k+1,a0_,a1_,a2_,Q,hm,h0=>by
  refine enter_norm_packed ?_
  unfold Y9.wn at hm
  have H:=AM.Own.nil h0
  try simp -implicitDefEqProofs (disch:=omega) only [push_cast,seval,J7a]
  obtain ⟨inv1,mu1,hi1,hs1⟩:=hm
  replace H:=H.addNil 4 (some (103,0))
  replace H:=H.pm [0]
  refine Z7 (σ:=(Int×(List Za)×Bool)×AV×Hp) (fun ⟨⟨a1,a2,a3⟩,x1,h1⟩=>⟨(((((List.replicate 72 AV.any).set 0 (.isl 4 (a0_.map Za.enc))).set 1 (aint a1)).set 2 (aint a2_)).set 7 x1).set 8 (Zk a3),h1⟩) (fun ⟨⟨a1,a2,a3⟩,x1,h1⟩=>inv1 (a1,a2,a3)∧AM.Own h0 h1 [⟨x1,false,4,a2.map Za.enc,some (103,0)⟩]) (fun ⟨⟨a1,a2,a3⟩,x1,h1⟩=>mu1 (a1,a2,a3)) ⟨(a1_,([]:List Za),false),anil,h0⟩ (rtw) ⟨hi1,H⟩ ?_
  rintro ⟨⟨a1,a2,a3⟩,x1,h1⟩ ⟨hi1,H⟩
  have hm:=hs1 _ hi1
  dsimp only at hm H ⊢
  refine sg0 ?_
  refine fkc (fun c1=>?_) fun c1=>?_
  ·replace hm:=ifp hm c1
   obtain ⟨z1,v1,i1,hm⟩:=hm
   refine sg (ai (eq_true c1) (ai (eq_true z1) i1)) ?_
   refine H.newR [(.val (.int .u8 0)),(astr (ByteArray.mk #[])),(aint 0),(aint 0)] rfl (fun b1 h2 H=>?_)
   refine sg (ai (eq_true c1) (ai (eq_true z1) (ai i1 (H.p 1 rfl)))) ?_
   refine H.stP 1 (Za.enc v1) rfl rfl rfl rfl (Nat.le_of_ble_eq_true rfl) rfl (fun h3 H=>?_)
   obtain ⟨w1,w2,hm⟩:=hm
   have F1:=ai (eq_true c1) (ai (eq_true z1) (ai i1 (ai (wrap_i64 _ w1) (wrap_i64 _ w2))))
   refine sg (ai F1 (H.p 1 rfl)) ?_
   refine Zn (fun h=>Y9.okn k _ _ _ _ hm h) (fun r1 hm=>?_)
   obtain ⟨w3,hm⟩:=hm
   refine sg (ai F1 (ai (wrap_i64 _ w3) (H.p 1 rfl))) ?_
   refine fkc (fun c2=>?_) fun c2=>?_
   ·replace hm:=ifn hm c2
    obtain ⟨w4,hm⟩:=hm
    have F2:=ai F1 (ai (wrap_i64 _ w3) (ai (eq_false c2) (wrap_i64 _ w4)))
    refine sg (ai F2 (H.p 1 rfl)) ?_
    refine H.stP 1 [(.val (.int .u8 v1.Kind)),(astr v1.Text),(aint v1.At),(aint ((r1.length:Int)+1))] rfl rfl rfl rfl (Nat.le_of_ble_eq_true rfl) rfl (fun h4 H=>?_)
    refine sg (ai F2 (H.p 1 rfl)) ?_
    refine H.newL (E:=Za.enc) ([(⟨v1.Kind,v1.Text,v1.At,(r1.length:Int)+1⟩:Za)]:List Za) rfl rfl (fun b2 h5 H=>?_)
    refine sg (ai F2 (ai (H.src (e:=103) 2 rfl) (H.p 1 rfl))) ?_
    obtain ⟨w5,hm⟩:=hm
    refine H.appL (E:=Za.enc) 0 ([(⟨v1.Kind,v1.Text,v1.At,(r1.length:Int)+1⟩:Za)]:List Za) rfl rfl rfl (by decide) (by decide) w5 (fun x2 h6 H=>?_)
    refine sg (ai F2 (H.p 1 rfl)) ?_
    obtain ⟨w6,hm⟩:=hm
    refine H.appL (E:=Za.enc) 0 r1 rfl rfl rfl (by decide) (by decide) w6 (fun x3 h7 H=>?_)
    refine sg (ai F2 (H.p 1 rfl)) ?_
    replace H:=H.pm [0]
    exact ⟨⟨(a1+v1.Size,(a2++([(⟨v1.Kind,v1.Text,v1.At,(r1.length:Int)+1⟩:Za)]:List Za))++r1,false),x3,h7⟩,hm.2,⟨hm.1,H⟩,rtw⟩
   replace c2:=Decidable.not_not.1 c2
   replace hm:=ifp hm c2
   refine sg (ai F1 (ai (wrap_i64 _ w3) (ai (eq_true c2) (H.p 1 rfl)))) ?_
   obtain ⟨k1,hm,hk1⟩:=Yn hm
   obtain ⟨M1,hM1⟩:∃ M:AM.St→Prop,M = (fun s'=>∃ (a4:Bool) (h8:Hp),Like s'.tm ((((((((List.replicate 72 none).set 0 (some (.isl 4 (a0_.map Za.enc)))).set 1 (some (aint (a1+v1.Size)))).set 2 (some (aint a2_))).set 7 (some x1)).set 8 (some (Zk a3))).set 9 (some (.optr b1 4 0 0))).set 44 (some (Zk a4)))∧s'.h = h8∧AM.Own h0 h8 [⟨x1,false,4,a2.map Za.enc,some (103,0)⟩,⟨(.optr b1 4 0 0),true,4,[(Za.enc v1)],some (103,4)⟩]∧k1 a4):=⟨_,rfl⟩
   refine Xe M1 ?_ ?_
   ·refine sg (ai F1 (ai (wrap_i64 _ w3) (ai (eq_true c2) (H.p 1 rfl)))) ?_
    refine gfk (fun c3=>?_) fun c3=>?_
    ·replace hm:=ifn hm c3
     have F3:=ai F1 (ai (wrap_i64 _ w3) (ai (eq_true c2) (eq_false c3)))
     refine sg (ai F3 (H.p 1 rfl)) ?_
     replace H:=H.pm [0,1]
     subst hM1
     exact ⟨a3,h3,lkt,rfl,H,hm⟩
    replace c3:=Decidable.not_not.1 c3
    replace hm:=ifp hm c3
    have F4:=ai F1 (ai (wrap_i64 _ w3) (ai (eq_true c2) (eq_true c3)))
    refine sg (ai F4 (H.p 1 rfl)) ?_
    replace H:=H.pm [0,1]
    subst hM1
    exact ⟨false,h3,lkt,rfl,H,hm⟩
   subst hM1
   rintro ⟨tm,h8⟩ ⟨a4,_,hL,rfl,H,hm⟩
   dsimp only at hL H
   obtain ⟨D,rfl⟩:=hL.fill 0
   replace hm:=hk1 _ hm
   have F5:=ai (eq_true c1) (ai (eq_true z1) (ai i1 (ai (wrap_i64 _ w1) (ai (wrap_i64 _ w2) (ai (wrap_i64 _ w3) (eq_true c2))))))
   refine sg (ai F5 (H.p 1 rfl)) ?_
   rw [Zw]
   refine ⟨fun c4=>?_,fun c4=>?_⟩
   ·replace hm:=ifp hm c4
    obtain ⟨w7,hm⟩:=hm
    refine sg (ai F5 (ai c4 (ai (wrap_i64 _ w7) (ai (H.lenE 0 rfl tab_51) (H.p 1 rfl))))) ?_
    obtain ⟨z2,v2,i2,hm⟩:=hm
    obtain ⟨b3,o1,rfl,qb,qc,qd,qe⟩:=H.row (k:=((a2.length:Int) - 1).toNat) (r:=Za.enc v2) 0 rfl (gmp i2)
    try rw [List.length_map] at qe
    have q1:=ai qb (ai qc (ai qd (eq_true qe)))
    rw [List.length_map] at H
    obtain ⟨w8,hm⟩:=hm
    have F6:=ai F5 (ai c4 (ai (wrap_i64 _ w7) (ai (eq_true z2) (eq_true w8))))
    refine sg (ai F6 (ai q1 (H.p 1 rfl))) ?_
    have i4:=Z0a (⟨v2.Kind,v2.Text++v1.Text,v2.At,v2.Size⟩:Za) i2
    refine H.stL 0 (⟨v2.Kind,v2.Text++v1.Text,v2.At,v2.Size⟩:Za) rfl i2 rfl rfl rfl (Nat.le_of_ble_eq_true rfl) rfl (fun h9 H=>?_)
    refine sg (ai F6 (ai q1 (H.p 1 rfl))) ?_
    replace H:=H.pm [0]
    exact ⟨⟨(a1+v1.Size,a2.set (((a2.length:Int) - 1).toNat) (⟨v2.Kind,v2.Text++v1.Text,v2.At,v2.Size⟩:Za),a3),(.osl b3 4 0 a2.length),h9⟩,hm.2,⟨hm.1,H⟩,rtw⟩
   replace hm:=ifn hm (by rw [c4]; exact Bool.false_ne_true)
   refine sg (ai F5 (ai c4 (H.p 1 rfl))) ?_
   refine fkc (fun c5=>?_) fun c5=>?_
   ·replace hm:=ifn hm c5
    refine sg (ai F5 (ai c4 (ai (eq_false c5) (H.p 1 rfl)))) ?_
    refine H.newL (E:=Za.enc) ([v1]:List Za) rfl rfl (fun b4 h10 H=>?_)
    refine sg (ai F5 (ai c4 (ai (eq_false c5) (ai (H.src (e:=103) 2 rfl) (H.p 1 rfl))))) ?_
    obtain ⟨w9,hm⟩:=hm
    refine H.appL (E:=Za.enc) 0 ([v1]:List Za) rfl rfl rfl (by decide) (by decide) w9 (fun x4 h11 H=>?_)
    refine sg (ai F5 (ai c4 (ai (eq_false c5) (H.p 1 rfl)))) ?_
    replace H:=H.pm [0]
    exact ⟨⟨(a1+v1.Size,a2++([v1]:List Za),true),x4,h11⟩,hm.2,⟨hm.1,H⟩,rtw⟩
   replace c5:=Decidable.not_not.1 c5
   replace hm:=ifp hm c5
   refine sg (ai F5 (ai c4 (ai (eq_true c5) (H.p 1 rfl)))) ?_
   replace H:=H.pm [0]
   exact ⟨⟨(a1+v1.Size,a2,a3),x1,h8⟩,hm.2,⟨hm.1,H⟩,rtw⟩
  replace hm:=ifn hm c1
  refine sg (eq_false c1) ?_
  obtain ⟨h12,s1,H⟩:=H.freeze 0 rfl
  exact Zb (.inl rfl) a2 _ rfl s1 H.sub hm
theorem Y9.ok {a0_:List Za} {a1_:Int} {a2_:Int} {Q:(List Za)→Prop} (hm:Y9.w a0_ a1_ a2_ Q) (h0:Hp):Zo Tryz.prog Yxb [(.isl 4 (a0_.map Za.enc)),(aint a1_),(aint a2_)] h0 (Back h0 (fun r=>(.isl 4 (r.map Za.enc))) Q):=hm.elim fun k hk=>Y9.okn k a0_ a1_ a2_ Q hk h0
end Go.Proofs.YtpkhmfedaaoalaaGreatDoor
