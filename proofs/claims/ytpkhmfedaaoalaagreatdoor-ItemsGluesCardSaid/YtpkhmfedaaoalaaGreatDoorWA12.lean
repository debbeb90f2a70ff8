/- ItemsGlues: a part of its proof (packed by a program). -/
import Derived.Test.YtpkhmfedaaoalaaGreatDoorSqz
import Derived.Test.YtpkhmfedaaoalaaGreatDoorHkf
set_option linter.all false
namespace Go.Proofs.YtpkhmfedaaoalaaGreatDoor
open Go Go.Proofs.YtpkhmfedaaoalaaGreatDoor.AM
set_option maxRecDepth 100000
set_option maxHeartbeats 4000000
abbrev n_hyph_Points:Nat:=54
noncomputable def ac_hyph_Points_c1:AC:=
 (.seq (.reg [oM 19 6,oM 20 7,oO 21 (.index 9 (oT 19) (oT 20)),oO 22 (.binOp .and 5 (oT 21) (oD 1) 5),oO 23 (.binOp .eql 5 (oT 22) (oD 1) 5),oM 24 23,oG 25 24 true (.move (oT 8)),oG 26 24 true (.binOp .geq 3 (oT 25) (oC 2) 3),oO 27 (.pick (oT 24) (oT 26) (.const (.bool false))),oM 28 27,oG 29 28 true (.move (oT 8)),oG 30 28 true (.move (oT 1)),oG 31 28 true (.call (.mk (.builtin .len) #[(oT 30)] #[9])),oG 32 28 true (.binOp .sub 3 (oT 31) (oC 2) 3),oG 33 28 true (.binOp .leq 3 (oT 29) (oT 32) 3),oO 34 (.pick (oT 28) (oT 33) (.const (.bool false)))]) (.cond (oT 34) (.reg [oM 35 5,oM 36 8,oO 37 (.buildSlice 29 1 #[(0,(oT 36))]),oO 38 (.call (.mk (.builtin .append) #[(oT 35),(oT 37)] #[29,29])),oA 5 38]) .skip))
noncomputable def Zbb:AC:=
 (.seq (.reg [oO 4 (.assign (.const (.slice none 0 0)))]) (.seq (.reg [oO 5 (.assign (.const (.slice none 0 0)))]) (.seq (.reg [oM 9 0,oM 10 1,oO 11 (oK 97 #[(oT 9),(oT 10)] #[24,9]),oA 6 11]) (.seq (.seq (.reg [oM 12 6,oN 13 12 9,oO 14 (.move (oC 0))]) (.block 0 (.loop (.seq (.reg [oO 15 (.binOp .lss 3 (oT 14) (oT 13) 3)]) (.seq (.cond (oT 15) .skip (.exit 0)) (.seq (.block 1 (.seq (.reg [oM 16 14,oA 7 16]) (.seq (.reg [oM 17 7,oO 18 (.binOp .add 3 (oT 17) (oC 1) 3),oA 8 18]) ac_hyph_Points_c1))) (.reg [oO 39 (.binOp .add 3 (oT 14) (oC 1) 3),oM 14 39]))))))) (.seq (.reg [oM 40 5,oA 4 40]) .ret)))))
theorem enter_hyph_Points:EN Zbb [(ResultVar.tmp 4)] 41 54:=acE Tryz.func54 (ann:=Yy)
def K8.w (a0_:List Zj) (a1_:ByteArray) (Q:(List Int)→Prop):Prop:=
 Zda.w a0_ a1_ (fun r1=>
  X2 (σ:=(List Int)×Int) (fun ⟨a1,a2⟩ next1=>
   if a2 < (r1.size:Int) then
    (I64 (a2+1)) ∧
    wcut (α:=Bool) (fun k1=>
     (0≤a2) ∧
     ∃ v1:UInt8,r1[a2.toNat]? = some v1 ∧
     if iand .u8 (v1.toNat:Int) 1 = 1 then
      if 2≤a2+1 then
       (I64 ((a1_.size:Int) - 2)) ∧
       k1 (decide (a2+1≤(a1_.size:Int) - 2))
      else
       k1 false
     else
      k1 false) (fun a3=>
     if a3 = true then
      ((a1.length+([a2+1]:List Int).length) * 8≤140737488355328) ∧
      (I64 (a2+1)) ∧
      next1 (a1++([a2+1]:List Int),a2+1)
     else
      (I64 (a2+1)) ∧
      next1 (a1,a2+1))
   else
    Q a1) (([]:List Int),0))
theorem K8.ok {a0_:List Zj} {a1_:ByteArray} {Q:(List Int)→Prop} (hm:K8.w a0_ a1_ Q) (h0:Hp):Zo Tryz.prog n_hyph_Points [(.isl 2 (a0_.map Zj.enc)),(astr a1_)] h0 (Back h0 (fun r=>(.isl 1 (r.map Yd))) Q):=by
 refine enter_hyph_Points ?_
 unfold K8.w at hm
 have H:=AM.Own.nil h0
 try simp -implicitDefEqProofs (disch:=omega) only [push_cast,seval,Zbb]
 refine Zn (fun h=>Zda.ok hm h) (fun r1 hm=>?_)
 refine sg0 ?_
 obtain ⟨inv1,mu1,hi1,hs1⟩:=hm
 replace H:=H.addNil 1 (some (3,0))
 replace H:=H.pm [0]
 refine Z7 (σ:=((List Int)×Int)×AV×Hp) (fun ⟨⟨a1,a2⟩,x1,h1⟩=>⟨(((((List.replicate 41 AV.any).set 1 (astr a1_)).set 5 x1).set 6 (astr r1)).set 13 (aint (r1.size:Int))).set 14 (aint a2),h1⟩) (fun ⟨⟨a1,a2⟩,x1,h1⟩=>inv1 (a1,a2)∧AM.Own h0 h1 [⟨x1,false,1,a1.map Yd,some (3,0)⟩]) (fun ⟨⟨a1,a2⟩,x1,h1⟩=>mu1 (a1,a2)) ⟨(([]:List Int),0),anil,h0⟩ (rtw) ⟨hi1,H⟩ ?_
 rintro ⟨⟨a1,a2⟩,x1,h1⟩ ⟨hi1,H⟩
 have hm:=hs1 _ hi1
 dsimp only at hm H ⊢
 refine sg0 ?_
 refine fkc (fun c1=>?_) fun c1=>?_
 ·replace hm:=ifp hm c1
  obtain ⟨w1,hm⟩:=hm
  refine sg (ai (eq_true c1) (wrap_i64 _ w1)) ?_
  obtain ⟨k1,hm,hk1⟩:=Yn hm
  obtain ⟨M1,hM1⟩:∃ M:AM.St→Prop,M = (fun s'=>∃ (a3:Bool) (h2:Hp),Like s'.tm ((((((((List.replicate 41 none).set 1 (some (astr a1_))).set 5 (some x1)).set 6 (some (astr r1))).set 8 (some (aint (a2+1)))).set 13 (some (aint (r1.size:Int)))).set 14 (some (aint a2))).set 34 (some (Zk a3)))∧s'.h = h2∧AM.Own h0 h2 [⟨x1,false,1,a1.map Yd,some (3,0)⟩]∧k1 a3):=⟨_,rfl⟩
  refine Xe M1 ?_ ?_
  ·obtain ⟨z1,v1,i1,hm⟩:=hm
   have F1:=ai (eq_true c1) (ai (wrap_i64 _ w1) (ai (eq_true z1) i1))
   refine sg F1 ?_
   refine gfk (fun c2=>?_) fun c2=>?_
   ·replace hm:=ifp hm c2
    refine sg (ai F1 (eq_true c2)) ?_
    refine gfk (fun c3=>?_) fun c3=>?_
    ·replace hm:=ifp hm c3
     obtain ⟨w2,hm⟩:=hm
     have F2:=ai F1 (ai (eq_true c2) (ai (eq_true c3) (wrap_i64 _ w2)))
     refine sg F2 ?_
     replace H:=H.pm [0]
     subst hM1
     exact ⟨decide (a2+1≤(a1_.size:Int) - 2),h1,lkt,rfl,H,hm⟩
    replace hm:=ifn hm c3
    refine sg (ai F1 (ai (eq_true c2) (eq_false c3))) ?_
    replace H:=H.pm [0]
    subst hM1
    exact ⟨false,h1,lkt,rfl,H,hm⟩
   replace hm:=ifn hm c2
   refine sg (ai F1 (eq_false c2)) ?_
   replace H:=H.pm [0]
   subst hM1
   exact ⟨false,h1,lkt,rfl,H,hm⟩
  subst hM1
  rintro ⟨tm,h2⟩ ⟨a3,_,hL,rfl,H,hm⟩
  dsimp only at hL H
  obtain ⟨D,rfl⟩:=hL.fill 0
  replace hm:=hk1 _ hm
  refine sg (ai (eq_true c1) (wrap_i64 _ w1)) ?_
  rw [Zw]
  refine ⟨fun c4=>?_,fun c4=>?_⟩
  ·replace hm:=ifp hm c4
   refine sg (ai (eq_true c1) (ai (wrap_i64 _ w1) c4)) ?_
   refine H.newL (E:=Yd) ([a2+1]:List Int) rfl rfl (fun b1 h3 H=>?_)
   refine sg (ai (eq_true c1) (ai (wrap_i64 _ w1) (ai c4 (H.src (e:=3) 1 rfl)))) ?_
   obtain ⟨w3,hm⟩:=hm
   refine H.appL (E:=Yd) 0 ([a2+1]:List Int) rfl rfl rfl (by decide) (by decide) w3 (fun x2 h4 H=>?_)
   obtain ⟨w4,hm⟩:=hm
   have F3:=ai (eq_true c1) (ai (wrap_i64 _ w1) (ai c4 (wrap_i64 _ w4)))
   refine sg F3 ?_
   replace H:=H.pm [0]
   exact ⟨⟨(a1++([a2+1]:List Int),a2+1),x2,h4⟩,hm.2,⟨hm.1,H⟩,rtw⟩
  replace hm:=ifn hm (by rw [c4]; exact Bool.false_ne_true)
  obtain ⟨w5,hm⟩:=hm
  have F4:=ai (eq_true c1) (ai (wrap_i64 _ w1) (ai c4 (wrap_i64 _ w5)))
  refine sg F4 ?_
  replace H:=H.pm [0]
  exact ⟨⟨(a1,a2+1),x1,h2⟩,hm.2,⟨hm.1,H⟩,rtw⟩
 replace hm:=ifn hm c1
 refine sg (eq_false c1) ?_
 obtain ⟨h5,s1,H⟩:=H.freeze 0 rfl
 exact Zb (.inl rfl) a1 _ rfl s1 H.sub hm
abbrev n_cmp_isNaN_int:Nat:=138
noncomputable def W1a:AC:=
 (.seq (.reg [oO 2 (.assign (.const (.bool false)))]) (.seq (.reg [oM 3 0,oM 4 0,oO 5 (.binOp .neq 3 (oT 3) (oT 4) 3),oA 2 5]) .ret))
theorem Z1b:EN W1a [(ResultVar.tmp 2)] 6 138:=acE Tryz.func138 (ann:=Yy)
def Ww.w (a0_:Int) (Q:Bool→Prop):Prop:=
 Q false
theorem Ww.ok {a0_:Int} {Q:Bool→Prop} (hm:Ww.w a0_ Q) (h0:Hp):Zo Tryz.prog n_cmp_isNaN_int [(aint a0_)] h0 (Back h0 (fun r=>(Zk r)) Q):=by
 refine Z1b ?_
 unfold Ww.w at hm
 have H:=AM.Own.nil h0
 try simp -implicitDefEqProofs (disch:=omega) only [push_cast,seval,W1a]
 exact Zb (.inl rfl) false _ rfl (Zf.refl _ _) H.sub hm
abbrev n_cmp_Less_int:Nat:=98
noncomputable def Kta:AC:=
 (.seq (.reg [oO 4 (.assign (.const (.bool false)))]) (.seq (.reg [oM 5 0,oO 6 (oK 138 #[(oT 5)] #[3]),oM 7 6,oG 8 7 true (.move (oT 1)),oG 9 7 true (oK 138 #[(oT 8)] #[3]),oG 10 7 true (.unOp .not 4 (oT 9)),oO 11 (.pick (oT 7) (oT 10) (.const (.bool false))),oM 12 11,oG 13 12 false (.move (oT 0)),oG 14 12 false (.move (oT 1)),oG 15 12 false (.binOp .lss 3 (oT 13) (oT 14) 3),oO 16 (.pick (oT 12) (.const (.bool true)) (oT 15)),oA 4 16]) .ret))
theorem Xgb:EN Kta [(ResultVar.tmp 4)] 17 98:=acE Tryz.func98 (ann:=Yy)
def Jd.w (a0_:Int) (a1_:Int) (Q:Bool→Prop):Prop:=
 Ww.w a0_ (fun r1=>
  if r1 = true then
   Ww.w a1_ (fun r2=>
    if (!r2) = true then
     Q true
    else
     Q (decide (a0_ < a1_)))
  else
   Q (decide (a0_ < a1_)))
theorem Jd.ok {a0_:Int} {a1_:Int} {Q:Bool→Prop} (hm:Jd.w a0_ a1_ Q) (h0:Hp):Zo Tryz.prog n_cmp_Less_int [(aint a0_),(aint a1_)] h0 (Back h0 (fun r=>(Zk r)) Q):=by
 refine Xgb ?_
 unfold Jd.w at hm
 have H:=AM.Own.nil h0
 try simp -implicitDefEqProofs (disch:=omega) only [push_cast,seval,Kta]
 refine Zn (fun h=>Ww.ok hm h) (fun r1 hm=>?_)
 refine sg0 ?_
 rw [Kh]
 refine ⟨fun c1=>?_,fun c1=>?_⟩
 ·replace hm:=ifp hm c1
  refine sg c1 ?_
  refine Zn (fun h=>Ww.ok hm h) (fun r2 hm=>?_)
  refine sg c1 ?_
  rw [Xh]
  refine ⟨fun c2=>?_,fun c2=>?_⟩
  ·replace hm:=ifp hm c2
   refine sg (ai c1 c2) ?_
   exact Zb (.inl rfl) true _ rfl (Zf.refl _ _) H.sub hm
  replace hm:=ifn hm (by rw [c2]; exact Bool.false_ne_true)
  refine sg (ai c1 c2) ?_
  exact Zb (.inl rfl) (decide (a0_ < a1_)) _ rfl (Zf.refl _ _) H.sub hm
 replace hm:=ifn hm (by rw [c1]; exact Bool.false_ne_true)
 refine sg c1 ?_
 exact Zb (.inl rfl) (decide (a0_ < a1_)) _ rfl (Zf.refl _ _) H.sub hm
abbrev Ywb:Nat:=99
noncomputable def Yma:AC:=
 (.seq (.reg [oO 2 (.assign (.const (.bool false)))]) (.seq (.reg [oM 3 0,oM 4 0,oO 5 (.binOp .neq 3 (oT 3) (oT 4) 3),oA 2 5]) .ret))
theorem Vaa:EN Yma [(ResultVar.tmp 2)] 6 99:=acE Tryz.func99 (ann:=Yy)
def Xr.w (a0_:Int) (Q:Bool→Prop):Prop:=
 Q false
theorem Xr.ok {a0_:Int} {Q:Bool→Prop} (hm:Xr.w a0_ Q) (h0:Hp):Zo Tryz.prog Ywb [(aint a0_)] h0 (Back h0 (fun r=>(Zk r)) Q):=by
 refine Vaa ?_
 unfold Xr.w at hm
 have H:=AM.Own.nil h0
 try simp -implicitDefEqProofs (disch:=omega) only [push_cast,seval,Yma]
 exact Zb (.inl rfl) false _ rfl (Zf.refl _ _) H.sub hm
abbrev Zoa:Nat:=55
noncomputable def Vf:AC:=
 (.seq (.reg [oO 4 (.assign (oC 0)),oO 5 (.assign (.const (.bool false)))]) (.seq (.reg [oM 10 0,oN 11 10 29,oA 6 11]) (.seq (.reg [oM 12 6,oO 7 (.assign (oC 0)),oA 8 12]) (.seq (.block 0 (.loop (.seq (.seq (.reg [oM 13 7,oM 14 8,oO 15 (.binOp .lss 3 (oT 13) (oT 14) 3)]) (.cond (oT 15) .skip (.exit 0))) (.block 1 (.seq (.reg [oM 16 7,oM 17 8,oO 18 (.binOp .add 3 (oT 16) (oT 17) 3),oO 19 (.convert 3 130 (oT 18)),oO 20 (.binOp .shr 130 (oT 19) (.const (.int .u64 1)) 130),oO 21 (.convert 130 3 (oT 20)),oA 9 21]) (.seq (.reg [oM 22 0,oM 23 9,oI 24 29 22 23,oL 25 3 24,oM 26 1,oO 27 (oK 98 #[(oT 25),(oT 26)] #[3,3])]) (.cond (oT 27) (.reg [oM 28 9,oO 29 (.binOp .add 3 (oT 28) (oC 1) 3),oA 7 29]) (.reg [oM 30 9,oA 8 30])))))))) (.seq (.reg [oM 31 7,oM 32 7,oM 33 6,oO 34 (.binOp .lss 3 (oT 32) (oT 33) 3),oM 35 34,oG 36 35 true (.move (oT 0)),oG 37 35 true (.move (oT 7)),oG 38 35 true (.indexAddr 29 (oT 36) (oT 37)),oG 39 35 true (.load 3 (oT 38)),oG 40 35 true (.move (oT 1)),oG 41 35 true (.binOp .eql 3 (oT 39) (oT 40) 3),oG 42 35 true (.move (oT 41)),oG 43 42 false (.move (oT 0)),oG 44 42 false (.move (oT 7)),oG 45 42 false (.indexAddr 29 (oT 43) (oT 44)),oG 46 42 false (.load 3 (oT 45)),oG 47 42 false (oK 99 #[(oT 46)] #[3]),oG 48 42 false (.move (oT 47)),oG 49 48 true (.move (oT 1)),oG 50 48 true (oK 99 #[(oT 49)] #[3]),oG 51 42 false (.pick (oT 48) (oT 50) (.const (.bool false))),oG 52 35 true (.pick (oT 42) (.const (.bool true)) (oT 51)),oO 53 (.pick (oT 35) (oT 52) (.const (.bool false))),oA 4 31,oA 5 53]) .ret)))))
theorem Jp:EN Vf [(ResultVar.tmp 4),(ResultVar.tmp 5)] 54 55:=acE Tryz.func55 (ann:=Yy)
def Yj.w (a0_:List Int) (a1_:Int) (Q:(Int×Bool)→Prop):Prop:=
 X2 (σ:=Int×Int) (fun ⟨a1,a2⟩ next1=>
  if a1 < a2 then
   (I64 (a1+a2)) ∧
   (I64 (ishr .u64 (IntKind.u64.wrap (a1+a2)) 1)) ∧
   (0≤ishr .u64 (IntKind.u64.wrap (a1+a2)) 1) ∧
   ∃ v1:Int,a0_[(ishr .u64 (IntKind.u64.wrap (a1+a2)) 1).toNat]? = some v1 ∧
   Jd.w v1 a1_ (fun r1=>
    if r1 = true then
     (I64 ((ishr .u64 (IntKind.u64.wrap (a1+a2)) 1)+1)) ∧
     next1 ((ishr .u64 (IntKind.u64.wrap (a1+a2)) 1)+1,a2)
    else
     next1 (a1,ishr .u64 (IntKind.u64.wrap (a1+a2)) 1))
  else
   if a1 < (a0_.length:Int) then
    (0≤a1) ∧
    ∃ v2:Int,a0_[a1.toNat]? = some v2 ∧
    if v2 = a1_ then
     Q (a1,true)
    else
     Xr.w v2 (fun r2=>
      if r2 = true then
       Xr.w a1_ (fun r3=>
        Q (a1,r3))
      else
       Q (a1,false))
   else
    Q (a1,false)) (0,(a0_.length:Int))
theorem Yj.ok {a0_:List Int} {a1_:Int} {Q:(Int×Bool)→Prop} (hm:Yj.w a0_ a1_ Q) (h0:Hp):Zo Tryz.prog Zoa [(.isl 1 (a0_.map Yd)),(aint a1_)] h0 (Back h0 (fun r=>.tup [(aint r.1),(Zk r.2)]) Q):=by
 refine Jp ?_
 unfold Yj.w at hm
 have H:=AM.Own.nil h0
 try simp -implicitDefEqProofs (disch:=omega) only [push_cast,seval,Vf]
 obtain ⟨inv1,mu1,hi1,hs1⟩:=hm
 replace H:=H.pm []
 refine Z7 (σ:=(Int×Int)×Hp) (fun ⟨⟨a1,a2⟩,h1⟩=>⟨(((((List.replicate 54 AV.any).set 0 (.isl 1 (a0_.map Yd))).set 1 (aint a1_)).set 6 (aint (a0_.length:Int))).set 7 (aint a1)).set 8 (aint a2),h1⟩) (fun ⟨⟨a1,a2⟩,h1⟩=>inv1 (a1,a2)∧AM.Own h0 h1 []) (fun ⟨⟨a1,a2⟩,h1⟩=>mu1 (a1,a2)) ⟨(0,(a0_.length:Int)),h0⟩ (rtw) ⟨hi1,H⟩ ?_
 rintro ⟨⟨a1,a2⟩,h1⟩ ⟨hi1,H⟩
 have hm:=hs1 _ hi1
 dsimp only at hm H ⊢
 refine sg0 ?_
 refine fkc (fun c1=>?_) fun c1=>?_
 ·replace hm:=ifp hm c1
  obtain ⟨w1,w2,z1,v1,i1,hm⟩:=hm
  have F1:=ai (eq_true c1) (ai (wrap_i64 _ w1) (ai (wrap_i64 _ w2) (ai (eq_true z1) i1)))
  refine sg F1 ?_
  refine Zn (fun h=>Jd.ok hm h) (fun r1 hm=>?_)
  refine sg F1 ?_
  rw [Zw]
  refine ⟨fun c2=>?_,fun c2=>?_⟩
  ·replace hm:=ifp hm c2
   obtain ⟨w3,hm⟩:=hm
   refine sg (ai F1 (ai c2 (wrap_i64 _ w3))) ?_
   replace H:=H.pm []
   exact ⟨⟨((ishr .u64 (IntKind.u64.wrap (a1+a2)) 1)+1,a2),h1⟩,hm.2,⟨hm.1,H⟩,rtw⟩
  replace hm:=ifn hm (by rw [c2]; exact Bool.false_ne_true)
  refine sg (ai F1 c2) ?_
  replace H:=H.pm []
  exact ⟨⟨(a1,ishr .u64 (IntKind.u64.wrap (a1+a2)) 1),h1⟩,hm.2,⟨hm.1,H⟩,rtw⟩
 replace hm:=ifn hm c1
 refine sg (eq_false c1) ?_
 refine gfk (fun c3=>?_) fun c3=>?_
 ·replace hm:=ifp hm c3
  obtain ⟨z2,v2,i2,hm⟩:=hm
  refine sg (ai (eq_false c1) (ai (eq_true c3) (ai (eq_true z2) i2))) ?_
  refine gfk' (fun c4=>?_) fun c4=>?_
  ·replace hm:=ifp hm c4
   have F2:=ai (eq_false c1) (ai (eq_true c3) (ai (eq_true z2) (ai i2 (eq_true c4))))
   refine sg F2 ?_
   exact Zb (.inl rfl) (a1,true) _ rfl (Zf.refl _ _) H.sub hm
  replace hm:=ifn hm c4
  have F3:=ai (eq_false c1) (ai (eq_true c3) (ai (eq_true z2) (ai i2 (eq_false c4))))
  refine sg F3 ?_
  refine Zn (fun h=>Xr.ok hm h) (fun r2 hm=>?_)
  refine sg F3 ?_
  rw [Kh]
  refine ⟨fun c5=>?_,fun c5=>?_⟩
  ·replace hm:=ifp hm c5
   refine sg (ai F3 c5) ?_
   refine Zn (fun h=>Xr.ok hm h) (fun r3 hm=>?_)
   refine sg (ai F3 c5) ?_
   exact Zb (.inl rfl) (a1,r3) _ rfl (Zf.refl _ _) H.sub hm
  replace hm:=ifn hm (by rw [c5]; exact Bool.false_ne_true)
  refine sg (ai F3 c5) ?_
  exact Zb (.inl rfl) (a1,false) _ rfl (Zf.refl _ _) H.sub hm
 replace hm:=ifn hm c3
 refine sg (ai (eq_false c1) (eq_false c3)) ?_
 exact Zb (.inl rfl) (a1,false) _ rfl (Zf.refl _ _) H.sub hm
noncomputable def Xv:AC:=
 (.reg [oM 4 0,oM 5 0,oO 6 (.nilCheck (oT 5)),oF 7 59 6 1,oL 8 33 7,oM 9 1,oO 10 (.call (.mk (.builtin .append) #[(oT 8),(oT 9)] #[33,33])),oO 11 (.nilCheck (oT 4)),oF 12 59 11 1,oS (.store 33 (oT 12) (oT 10))])
theorem Xt:EN Xv [] 13 53:=acE Tryz.func53 (ann:=Yy)
abbrev Jka:Nat:=27
def Vfa:Nat→Ann
 | 0=>{ pure:=[10],plan:=(.op 0 (.op 1 (.op 2 (.op 3 (.op 4 (.op 5 (.op 6 (.op 7 (.op 8 (.op 9 (.op 10 (.op 11 .done)))))))))))),ghost:=false,post:=false }
 | 6=>{ pure:=[],plan:=(.op 0 (.op 1 (.op 2 (.op 3 (.op 4 (.op 5 (.op 6 (.op 7 (.op 8 (.op 9 (.op 10 (.op 11 (.op 12 (.op 13 (.op 14 (.op 15 .done)))))))))))))))),ghost:=false,post:=false }
 | 7=>{ pure:=[],plan:=(.op 0 (.op 1 (.op 2 (.op 3 (.op 4 (.op 5 (.op 6 (.op 7 (.op 8 (.op 9 (.op 10 (.op 11 (.op 12 (.op 13 (.op 14 (.op 15 (.op 16 .done))))))))))))))))),ghost:=false,post:=false }
 | _=>{}
noncomputable def Xva:AC:=
 (.seq (.seq (.reg [oM 29 2,oM 30 3,oO 31 (oK 55 #[(oT 29),(oT 30)] #[29,3]),oM 28 31,oO 32 (.extract (oT 28) 0),oO 33 (.extract (oT 28) 1),oA 5 32,oA 6 33]) (.seq (.reg [oM 34 6]) (.cond (oT 34) (.draw [oM 35 0,oM 36 0,oO 37 (.nilCheck (oT 36)),oF 38 59 37 0,oF 39 26 38 0,oO 40 (.indexAddr 23 (oT 39) (oC 45)),oL 41 3 40,oM 42 0,oO 43 (.nilCheck (oT 42)),oF 44 59 43 3,oL 45 3 44,oM 46 3,oO 47 (.binOp .add 3 (oT 45) (oT 46) 3),oO 48 (.build 41 #[(0,(oC 3)),(1,(oT 41)),(4,(oT 47))]),oO 49 (.buildSlice 33 1 #[(0,(oT 48))]),oO 50 (oK 53 #[(oT 35),(oT 49)] #[56,33])] (.op 0 (.op 1 (.op 2 (.op 3 (.op 4 (.op 5 (.op 6 (.op 7 (.op 8 (.op 9 (.op 10 (.op 11 (.op 12 (.op 13 (.op 14 (.op 15 .done))))))))))))))))) .skip))) (.draw [oM 51 0,oM 52 0,oM 53 4,oO 54 (.nilCheck (oT 52)),oF 55 59 54 0,oF 56 26 55 0,oI 57 23 56 53,oL 58 3 57,oM 59 0,oO 60 (.nilCheck (oT 59)),oF 61 59 60 3,oL 62 3 61,oM 63 3,oO 64 (.binOp .add 3 (oT 62) (oT 63) 3),oO 65 (.build 41 #[(0,(oC 1)),(1,(oT 58)),(4,(oT 64))]),oO 66 (.buildSlice 33 1 #[(0,(oT 65))]),oO 67 (oK 53 #[(oT 51),(oT 66)] #[56,33])] (.op 0 (.op 1 (.op 2 (.op 3 (.op 4 (.op 5 (.op 6 (.op 7 (.op 8 (.op 9 (.op 10 (.op 11 (.op 12 (.op 13 (.op 14 (.op 15 (.op 16 .done)))))))))))))))))))
noncomputable def Zla:AC:=
 (.seq (.draw [oM 7 0,oO 8 (.nilCheck (oT 7)),oF 9 59 8 0,oF 10 26 9 3,oL 11 24 10,oM 12 0,oO 13 (.nilCheck (oT 12)),oF 14 59 13 2,oL 15 57 14,oO 16 (.convert 57 9 (oT 15)),⟨some 17,(oK 54 #[(oT 11),(oT 16)] #[24,9]),none,true⟩,oA 2 17] (.op 0 (.op 1 (.op 2 (.op 3 (.op 4 (.op 5 (.op 6 (.op 7 (.op 8 (.op 9 (.op 10 (.op 11 .done))))))))))))) (.seq (.seq (.reg [oM 18 0,oO 19 (.nilCheck (oT 18)),oF 20 59 19 2,oL 21 57 20,oN 22 21 57,oO 23 (.move (oC 0))]) (.block 0 (.loop (.seq (.reg [oO 24 (.binOp .lss 3 (oT 23) (oT 22) 3)]) (.seq (.cond (oT 24) .skip (.exit 0)) (.seq (.block 1 (.seq (.reg [oM 25 23,oI 26 57 21 23,oL 27 5 26,oA 3 25,oA 4 27]) Xva)) (.reg [oO 68 (.binOp .add 3 (oT 23) (oC 1) 3),oM 23 68]))))))) (.reg [oM 69 0,oO 70 (.nilCheck (oT 69)),oF 71 59 70 2,oS (.store 57 (oT 71) (.const (.slice none 0 0)))])))
theorem Xja:EN Zla [] 72 27:=acE Tryz.func27 (ann:=Vfa)
def Yq.w (c0_0_:Zg) (c0_1_:List Zh) (c0_2_:List Int) (c0_3_:Int) (Q:Unit→Zg→(List Zh)→(List Int)→Int→Prop):Prop:=
 (c0_0_.Widths.length = 128) ∧
 ∃ r1:List Int,K8.w c0_0_.Pats (Yg c0_2_) (fun r'=>r' = r1) ∧
 X2 (σ:=(List Zh)×(List Int)×Int) (fun ⟨a1,a2,a3⟩ next1=>
  if a3 < (c0_2_.length:Int) then
   (0≤a3) ∧
   ∃ v1:Int,a2[a3.toNat]? = some v1 ∧
   wcut (α:=(List Zh)) (fun k1=>
    Yj.w r1 a3 (fun r2=>
     if r2.2 = true then
      ∃ v2:Int,c0_0_.Widths[45]? = some v2 ∧
      (I64 (c0_3_+a3)) ∧
      ((a1.length+([(⟨3,v2,0,0,c0_3_+a3⟩:Zh)]:List Zh).length) * 40≤140737488355328) ∧
      k1 (a1++([(⟨3,v2,0,0,c0_3_+a3⟩:Zh)]:List Zh))
     else
      k1 a1)) (fun a4=>
    (0≤v1) ∧
    (v1.toNat < 128) ∧
    ∃ v3:Int,c0_0_.Widths[v1.toNat]? = some v3 ∧
    (I64 (c0_3_+a3)) ∧
    ((a4.length+([(⟨1,v3,0,0,c0_3_+a3⟩:Zh)]:List Zh).length) * 40≤140737488355328) ∧
    (I64 (a3+1)) ∧
    next1 (a4++([(⟨1,v3,0,0,c0_3_+a3⟩:Zh)]:List Zh),a2,a3+1))
  else
   Q () c0_0_ a1 ([]:List Int) c0_3_) (c0_1_,c0_2_,0)
theorem Yq.ok {c0_0_:Zg} {c0_1_:List Zh} {c0_2_:List Int} {c0_3_:Int} {Q:Unit→Zg→(List Zh)→(List Int)→Int→Prop} (hm:Yq.w c0_0_ c0_1_ c0_2_ c0_3_ Q) {h0 h:Hp} {b0_:Nat} {x0_1_ x0_2_:AV} (H:AM.Own h0 h [⟨x0_1_,false,5,c0_1_.map Zh.enc,some (41,0)⟩,⟨x0_2_,false,1,c0_2_.map Xj,some (5,0)⟩,⟨(.optr b0_ 134 0 0),true,134,[(List.map (fun v=>AV.val (Value.int IntKind.i64 v)) c0_0_.Widths++[(aint c0_0_.Stretch),(aint c0_0_.Shrink),(.isl 2 (c0_0_.Pats.map Zj.enc)),x0_1_,x0_2_,(aint c0_3_)])],some (59,134)⟩]):Zo Tryz.prog Jka [(.optr b0_ 134 0 0)] h (fun e h'=>∃ (r:Unit) (c0_0':Zg) (c0_1':List Zh) (c0_2':List Int) (c0_3':Int) (x0_1_':AV) (x0_2_':AV),e = .ret ((fun _=>.tup []) r)∧AM.Own h0 h' [⟨x0_1_',false,5,c0_1'.map Zh.enc,some (41,0)⟩,⟨x0_2_',false,1,c0_2'.map Xj,some (5,0)⟩,⟨(.optr b0_ 134 0 0),true,134,[(List.map (fun v=>AV.val (Value.int IntKind.i64 v)) c0_0'.Widths++[(aint c0_0'.Stretch),(aint c0_0'.Shrink),(.isl 2 (c0_0'.Pats.map Zj.enc)),x0_1_',x0_2_',(aint c0_3')])],some (59,134)⟩]∧Q r c0_0' c0_1' c0_2' c0_3'):=by
 refine Xja ?_
 unfold Yq.w at hm
 obtain ⟨z1,hm⟩:=hm
 have fa1g0:∀ r:List AV,(List.map (fun v=>AV.val (Value.int IntKind.i64 v)) c0_0_.Widths++r)[128]? = r[0]?:=fun r=>Zz (k:=0) z1 r
 have fa1t0:∀ r:List AV,(List.map (fun v=>AV.val (Value.int IntKind.i64 v)) c0_0_.Widths++r).take 129 = List.map (fun v=>AV.val (Value.int IntKind.i64 v)) c0_0_.Widths++r.take 1:=fun r=>Zr (k:=1) z1 r
 have fa1g1:∀ r:List AV,(List.map (fun v=>AV.val (Value.int IntKind.i64 v)) c0_0_.Widths++r)[129]? = r[1]?:=fun r=>Zz (k:=1) z1 r
 have fa1t1:∀ r:List AV,(List.map (fun v=>AV.val (Value.int IntKind.i64 v)) c0_0_.Widths++r).take 130 = List.map (fun v=>AV.val (Value.int IntKind.i64 v)) c0_0_.Widths++r.take 2:=fun r=>Zr (k:=2) z1 r
 have fa1g2:∀ r:List AV,(List.map (fun v=>AV.val (Value.int IntKind.i64 v)) c0_0_.Widths++r)[130]? = r[2]?:=fun r=>Zz (k:=2) z1 r
 have fa1t2:∀ r:List AV,(List.map (fun v=>AV.val (Value.int IntKind.i64 v)) c0_0_.Widths++r).take 131 = List.map (fun v=>AV.val (Value.int IntKind.i64 v)) c0_0_.Widths++r.take 3:=fun r=>Zr (k:=3) z1 r
 have fa1g3:∀ r:List AV,(List.map (fun v=>AV.val (Value.int IntKind.i64 v)) c0_0_.Widths++r)[131]? = r[3]?:=fun r=>Zz (k:=3) z1 r
 have fa1t3:∀ r:List AV,(List.map (fun v=>AV.val (Value.int IntKind.i64 v)) c0_0_.Widths++r).take 132 = List.map (fun v=>AV.val (Value.int IntKind.i64 v)) c0_0_.Widths++r.take 4:=fun r=>Zr (k:=4) z1 r
 have fa1g4:∀ r:List AV,(List.map (fun v=>AV.val (Value.int IntKind.i64 v)) c0_0_.Widths++r)[132]? = r[4]?:=fun r=>Zz (k:=4) z1 r
 have fa1t4:∀ r:List AV,(List.map (fun v=>AV.val (Value.int IntKind.i64 v)) c0_0_.Widths++r).take 133 = List.map (fun v=>AV.val (Value.int IntKind.i64 v)) c0_0_.Widths++r.take 5:=fun r=>Zr (k:=5) z1 r
 have fa1g5:∀ r:List AV,(List.map (fun v=>AV.val (Value.int IntKind.i64 v)) c0_0_.Widths++r)[133]? = r[5]?:=fun r=>Zz (k:=5) z1 r
 have fa1t5:∀ r:List AV,(List.map (fun v=>AV.val (Value.int IntKind.i64 v)) c0_0_.Widths++r).take 134 = List.map (fun v=>AV.val (Value.int IntKind.i64 v)) c0_0_.Widths++r.take 6:=fun r=>Zr (k:=6) z1 r
 have F1:=ai fa1g0 (ai fa1t0 (ai fa1g1 (ai fa1t1 (ai fa1g2 (ai fa1t2 (ai fa1g3 (ai fa1t3 (ai fa1g4 (ai fa1t4 (ai fa1g5 fa1t5))))))))))
 have u1:=Xu (f:=(fun v=>AV.val (Value.int IntKind.i64 v))) z1
 have u2:=Vb (f:=(fun v=>AV.val (Value.int IntKind.i64 v))) z1
 try simp -implicitDefEqProofs (disch:=omega) only [push_cast,seval,Zla,F1,u1,u2,List.drop_zero,H.text 1 rfl Ja Zmb tab_5,H.p 2 rfl]
 obtain ⟨r1,g1,hm⟩:=hm
 refine K4a _ (Jc (fun h=>K8.ok g1 h)) ?_
 refine sg (ai F1 (ai u1 (ai u2 (ai (H.lenE 1 rfl Ja) (H.p 2 rfl))))) ?_
 obtain ⟨inv1,mu1,hi1,hs1⟩:=hm
 replace H:=H.pm [0,1,2]
 refine Z7 (σ:=((List Zh)×(List Int)×Int)×AV×AV×Hp) (fun ⟨⟨a1,a2,a3⟩,x1,x2,h1⟩=>⟨(((((List.replicate 72 AV.any).set 0 (.optr b0_ 134 0 0)).set 2 (.isl 1 (r1.map Yd))).set 21 x2).set 22 (aint (c0_2_.length:Int))).set 23 (aint a3),h1⟩) (fun ⟨⟨a1,a2,a3⟩,x1,x2,h1⟩=>inv1 (a1,a2,a3)∧AM.Own h0 h1 [⟨x1,false,5,a1.map Zh.enc,some (41,0)⟩,⟨x2,false,1,a2.map Xj,some (5,0)⟩,⟨(.optr b0_ 134 0 0),true,134,[(List.map (fun v=>AV.val (Value.int IntKind.i64 v)) c0_0_.Widths++[(aint c0_0_.Stretch),(aint c0_0_.Shrink),(.isl 2 (c0_0_.Pats.map Zj.enc)),x1,x2,(aint c0_3_)])],some (59,134)⟩]) (fun ⟨⟨a1,a2,a3⟩,x1,x2,h1⟩=>mu1 (a1,a2,a3)) ⟨(c0_1_,c0_2_,0),x0_1_,x0_2_,h⟩ (rtw) ⟨hi1,H⟩ ?_
 rintro ⟨⟨a1,a2,a3⟩,x1,x2,h1⟩ ⟨hi1,H⟩
 have hm:=hs1 _ hi1
 dsimp only at hm H ⊢
 have F2:=ai fa1g0 (ai fa1t0 (ai fa1g1 (ai fa1t1 (ai fa1g2 (ai fa1t2 (ai fa1g3 (ai fa1t3 (ai fa1g4 (ai fa1t4 (ai fa1g5 fa1t5))))))))))
 refine sg (ai F2 (ai u1 (ai u2 (H.p 2 rfl)))) ?_
 refine fkc (fun c1=>?_) fun c1=>?_
 ·replace hm:=ifp hm c1
  refine sg (ai F2 (ai u1 (ai u2 (ai (eq_true c1) (H.p 2 rfl))))) ?_
  obtain ⟨z2,v1,i1,hm⟩:=hm
  obtain ⟨b1,o1,rfl,qb,qc,qd,qe⟩:=H.row (k:=a3.toNat) (r:=Xj v1) 1 rfl (gmp i1)
  try rw [List.length_map] at qe
  have q1:=ai qb (ai qc (ai qd (eq_true qe)))
  rw [List.length_map] at H
  refine sg (ai F2 (ai u1 (ai u2 (ai (eq_true c1) (ai (eq_true z2) (ai q1 (H.p 2 rfl))))))) ?_
  obtain ⟨k1,hm,hk1⟩:=Yn hm
  obtain ⟨M1,hM1⟩:∃ M:AM.St→Prop,M = (fun s'=>∃ (a4:List Zh) (x3:AV) (h2:Hp),Like s'.tm ((((((((List.replicate 72 none).set 0 (some (.optr b0_ 134 0 0))).set 2 (some (.isl 1 (r1.map Yd)))).set 3 (some (aint a3))).set 4 (some (.val (.int .u8 v1)))).set 21 (some (.osl b1 1 0 a2.length))).set 22 (some (aint (c0_2_.length:Int)))).set 23 (some (aint a3)))∧s'.h = h2∧AM.Own h0 h2 [⟨x3,false,5,a4.map Zh.enc,some (41,0)⟩,⟨(.osl b1 1 0 a2.length),false,1,a2.map Xj,some (5,0)⟩,⟨(.optr b0_ 134 0 0),true,134,[(List.map (fun v=>AV.val (Value.int IntKind.i64 v)) c0_0_.Widths++[(aint c0_0_.Stretch),(aint c0_0_.Shrink),(.isl 2 (c0_0_.Pats.map Zj.enc)),x3,(.osl b1 1 0 a2.length),(aint c0_3_)])],some (59,134)⟩]∧k1 a4):=⟨_,rfl⟩
  refine Xe M1 ?_ ?_
  ·refine sg (ai F2 (ai u1 (ai u2 (ai (eq_true c1) (ai (eq_true z2) (ai q1 (H.p 2 rfl))))))) ?_
   refine Zn (fun h=>Yj.ok hm h) (fun r2 hm=>?_)
   refine sg (ai F2 (ai u1 (ai u2 (ai (eq_true c1) (ai (eq_true z2) (ai q1 (H.p 2 rfl))))))) ?_
   rw [Zw]
   refine ⟨fun c2=>?_,fun c2=>?_⟩
   ·replace hm:=ifp hm c2
    obtain ⟨v2,i2,hm⟩:=hm
    have i2a:∀ r:List AV,(List.map (fun v=>AV.val (Value.int IntKind.i64 v)) c0_0_.Widths++r)[45]? = some ((fun v=>AV.val (Value.int IntKind.i64 v)) v2):=fun r=>by simpa using arrAtA (f:=(fun v=>AV.val (Value.int IntKind.i64 v))) i2 r
    obtain ⟨w1,hm⟩:=hm
    have F3:=ai F2 (ai (eq_true c1) (ai (eq_true z2) (ai c2 (ai i2a (wrap_i64 _ w1)))))
    refine sg (ai F3 (ai u1 (ai u2 (ai q1 (H.p 2 rfl))))) ?_
    refine H.newL (E:=Zh.enc) ([(⟨3,v2,0,0,c0_3_+a3⟩:Zh)]:List Zh) rfl rfl (fun b2 h3 H=>?_)
    refine sg (ai F3 (ai u1 (ai u2 (ai q1 (H.p 2 rfl))))) ?_
    refine Z1 (Xt ?_) (fun _ _ h=>h)
    try simp -implicitDefEqProofs (disch:=omega) only [push_cast,seval,Xv,F3,u1,u2,List.drop_zero,q1,H.src (e:=41) 3 rfl,H.p 2 rfl]
    obtain ⟨w2,hm⟩:=hm
    refine H.appL (E:=Zh.enc) 0 ([(⟨3,v2,0,0,c0_3_+a3⟩:Zh)]:List Zh) rfl rfl rfl (by decide) (by decide) w2 (fun x4 h4 H=>?_)
    refine sg (ai F3 (ai u1 (ai u2 (ai q1 (H.p 2 rfl))))) ?_
    refine H.stP 2 (List.map (fun v=>AV.val (Value.int IntKind.i64 v)) c0_0_.Widths++[(aint c0_0_.Stretch),(aint c0_0_.Shrink),(.isl 2 (c0_0_.Pats.map Zj.enc)),x4,(.osl b1 1 0 a2.length),(aint c0_3_)]) rfl (H.ok 0 rfl).1 (H.ok 0 rfl).2 rfl (by rw [Xu z1]; exact Nat.le_of_ble_eq_true rfl) (by exact arrStA (f:=(fun v=>AV.val (Value.int IntKind.i64 v))) (c:=3) (sz:=1) z1 rfl) (fun h5 H=>?_)
    refine sg (ai F3 (ai u1 (ai u2 (ai q1 (H.p 2 rfl))))) ?_
    refine Yx (.inr rfl) rfl ?_
    refine sg (ai F3 (ai u1 (ai u2 (ai q1 (H.p 2 rfl))))) ?_
    replace H:=H.pm [0,1,2]
    subst hM1
    exact ⟨a1++([(⟨3,v2,0,0,c0_3_+a3⟩:Zh)]:List Zh),x4,h5,lkt,rfl,H,hm⟩
   replace hm:=ifn hm (by rw [c2]; exact Bool.false_ne_true)
   refine sg (ai F2 (ai u1 (ai u2 (ai (eq_true c1) (ai (eq_true z2) (ai q1 (ai c2 (H.p 2 rfl)))))))) ?_
   replace H:=H.pm [0,1,2]
   subst hM1
   exact ⟨a1,x1,h1,lkt,rfl,H,hm⟩
  subst hM1
  rintro ⟨tm,h2⟩ ⟨a4,x3,_,hL,rfl,H,hm⟩
  dsimp only at hL H
  obtain ⟨D,rfl⟩:=hL.fill 0
  replace hm:=hk1 _ hm
  obtain ⟨z3,z4,v3,i3,w3,hm⟩:=hm
  have F4:=ai fa1g0 (ai fa1t0 (ai fa1g1 (ai fa1t1 (ai fa1g2 (ai fa1t2 (ai fa1g3 (ai fa1t3 (ai fa1g4 (ai fa1t4 (ai fa1g5 (ai fa1t5 (ai (eq_true c1) (ai (eq_true z2) (ai (eq_true z3) (ai (eq_true z4) (wrap_i64 _ w3))))))))))))))))
  have u3:=arrAtA (f:=(fun v=>AV.val (Value.int IntKind.i64 v))) i3
  refine sg (ai F4 (ai u1 (ai u2 (ai q1 (ai u3 (H.p 2 rfl)))))) ?_
  refine H.newL (E:=Zh.enc) ([(⟨1,v3,0,0,c0_3_+a3⟩:Zh)]:List Zh) rfl rfl (fun b3 h6 H=>?_)
  refine sg (ai F4 (ai u1 (ai u2 (ai q1 (ai u3 (H.p 2 rfl)))))) ?_
  refine Z1 (Xt ?_) (fun _ _ h=>h)
  try simp -implicitDefEqProofs (disch:=omega) only [push_cast,seval,Xv,F4,u1,u2,List.drop_zero,q1,u3,H.src (e:=41) 3 rfl,H.p 2 rfl]
  obtain ⟨w4,hm⟩:=hm
  refine H.appL (E:=Zh.enc) 0 ([(⟨1,v3,0,0,c0_3_+a3⟩:Zh)]:List Zh) rfl rfl rfl (by decide) (by decide) w4 (fun x5 h7 H=>?_)
  refine sg (ai F4 (ai u1 (ai u2 (ai q1 (ai u3 (H.p 2 rfl)))))) ?_
  refine H.stP 2 (List.map (fun v=>AV.val (Value.int IntKind.i64 v)) c0_0_.Widths++[(aint c0_0_.Stretch),(aint c0_0_.Shrink),(.isl 2 (c0_0_.Pats.map Zj.enc)),x5,(.osl b1 1 0 a2.length),(aint c0_3_)]) rfl (H.ok 0 rfl).1 (H.ok 0 rfl).2 rfl (by rw [Xu z1]; exact Nat.le_of_ble_eq_true rfl) (by exact arrStA (f:=(fun v=>AV.val (Value.int IntKind.i64 v))) (c:=3) (sz:=1) z1 rfl) (fun h8 H=>?_)
  refine sg (ai F4 (ai u1 (ai u2 (ai q1 (ai u3 (H.p 2 rfl)))))) ?_
  refine Yx (.inr rfl) rfl ?_
  obtain ⟨w5,hm⟩:=hm
  refine sg (ai F4 (ai u1 (ai u2 (ai q1 (ai u3 (ai (wrap_i64 _ w5) (H.p 2 rfl))))))) ?_
  replace H:=H.pm [0,1,2]
  exact ⟨⟨(a4++([(⟨1,v3,0,0,c0_3_+a3⟩:Zh)]:List Zh),a2,a3+1),x5,(.osl b1 1 0 a2.length),h8⟩,hm.2,⟨hm.1,H⟩,rtw⟩
 replace hm:=ifn hm c1
 refine sg (ai F2 (ai u1 (ai u2 (ai (eq_false c1) (H.p 2 rfl))))) ?_
 refine H.stP 2 (List.map (fun v=>AV.val (Value.int IntKind.i64 v)) c0_0_.Widths++[(aint c0_0_.Stretch),(aint c0_0_.Shrink),(.isl 2 (c0_0_.Pats.map Zj.enc)),x1,anil,(aint c0_3_)]) rfl rfl rfl rfl (by rw [Xu z1]; exact Nat.le_of_ble_eq_true rfl) (by exact arrStA (f:=(fun v=>AV.val (Value.int IntKind.i64 v))) (c:=4) (sz:=1) z1 rfl) (fun h9 H=>?_)
 refine sg (ai F2 (ai u1 (ai u2 (ai (eq_false c1) (H.p 2 rfl))))) ?_
 replace H:=H.addNil 1 (some (5,0))
 replace H:=H.pm [0,3,2]
 exact Ym (.inr rfl) (x:=(.tup [])) rfl (Zf.refl _ _) ⟨(),c0_0_,a1,([]:List Int),c0_3_,x1,anil,rfl,H,hm⟩
abbrev Vwa:Nat:=52
noncomputable def Jz:AC:=
 (.seq (.reg [oO 5 (.alloc 41)]) (.seq (.reg [oM 6 0,oM 7 1,oL 8 3 2,oO 9 (.build 41 #[(0,(oT 6)),(1,(oT 7)),(4,(oT 8))]),oS (.store 41 (oT 5) (oT 9))]) .ret))
theorem Y1a:EN Jz [(ResultVar.cell 5 41)] 10 52:=acE Tryz.func52 (ann:=Yy)
def Yk.w (a0_:Int) (a1_:Int) (c0_:Int) (Q:Zh→Int→Prop):Prop:=
 Q (⟨a0_,a1_,0,0,c0_⟩:Zh) c0_
theorem Yk.ok {a0_:Int} {a1_:Int} {c0_:Int} {Q:Zh→Int→Prop} (hm:Yk.w a0_ a1_ c0_ Q) {h0 h:Hp} {b0_:Nat} (H:AM.Own h0 h [⟨(.optr b0_ 1 0 0),true,1,[[(aint c0_)]],some (3,1)⟩]):Zo Tryz.prog Vwa [(aint a0_),(aint a1_),(.optr b0_ 1 0 0)] h (fun e h'=>∃ (r:Zh) (c0':Int),e = .ret ((fun r=>(.agg (Zh.enc r))) r)∧AM.Own h0 h' [⟨(.optr b0_ 1 0 0),true,1,[[(aint c0')]],some (3,1)⟩]∧Q r c0'):=by
 refine Y1a ?_
 unfold Yk.w at hm
 try simp -implicitDefEqProofs (disch:=omega) only [push_cast,seval,Jz,H.p 0 rfl]
 refine H.newR [(aint 0),(aint 0),(aint 0),(aint 0),(aint 0)] rfl (fun b1 h1 H=>?_)
 refine sg (ai (H.p 0 rfl) (H.p 1 rfl)) ?_
 refine H.stP 1 [(aint a0_),(aint a1_),(aint 0),(aint 0),(aint c0_)] rfl rfl rfl rfl (Nat.le_of_ble_eq_true rfl) rfl (fun h2 H=>?_)
 refine sg (ai (H.p 0 rfl) (H.p 1 rfl)) ?_
 have e0:=H.p 0 rfl
 have e1:=H.p 1 rfl
 replace H:=H.pm [0]
 exact Ym (.inl rfl) (x:=(.agg [(aint a0_),(aint a1_),(aint 0),(aint 0),(aint c0_)])) (by simp [Wm,Yqa,Vpa,push_cast,e0,e1]) (Zf.refl _ _) ⟨(⟨a0_,a1_,0,0,c0_⟩:Zh),c0_,rfl,H,hm⟩
end Go.Proofs.YtpkhmfedaaoalaaGreatDoor
