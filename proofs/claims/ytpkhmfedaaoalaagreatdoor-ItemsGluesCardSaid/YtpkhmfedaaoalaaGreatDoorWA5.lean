/- ItemsGlues: a part of its proof (packed by a program). -/
import Derived.Test.YtpkhmfedaaoalaaGreatDoorAwk
set_option linter.all false
namespace Go.Proofs.YtpkhmfedaaoalaaGreatDoor
open Go Go.Proofs.YtpkhmfedaaoalaaGreatDoor.AM
set_option maxRecDepth 100000
set_option maxHeartbeats 4000000
abbrev n_tree_events:Nat:=78
def ann_tree_events:Nat→Ann
 | 7=>{ pure:=[],plan:=(.op 0 (.op 1 (.op 4 (.op 5 (.op 6 (.op 7 (.op 8 (.op 2 (.op 3 (.op 9 (.op 10 .done))))))))))),ghost:=false,post:=false }
 | 10=>{ pure:=[],plan:=(.op 0 (.op 1 (.op 2 (.op 3 (.op 6 (.op 7 (.op 8 (.both (.op 4 (.both (.op 5 (.op 9 (.op 10 (.op 11 (.op 12 (.op 13 (.op 14 .done))))))) (.op 9 (.op 10 (.both (.op 5 (.op 11 (.op 12 (.op 13 (.op 14 .done))))) (.op 11 (.op 5 (.op 12 (.op 13 (.op 14 .done)))))))))) (.op 9 (.op 10 (.both (.op 4 (.both (.op 5 (.op 11 (.op 12 (.op 13 (.op 14 .done))))) (.op 11 (.op 5 (.op 12 (.op 13 (.op 14 .done))))))) (.op 11 (.op 4 (.op 5 (.op 12 (.op 13 (.op 14 .done))))))))))))))))),ghost:=false,post:=false }
 | _=>{}
noncomputable def ac_tree_events_c1:AC:=
 (.seq (.block 2 (.loop (.seq (.seq (.reg [oM 14 4,oN 15 14 29,oO 16 (.binOp .gtr 3 (oT 15) (oC 0) 3),oM 17 16,oG 18 17 true (.move (oT 4)),oG 19 17 true (.move (oT 4)),oG 20 17 true (.call (.mk (.builtin .len) #[(oT 19)] #[29])),oG 21 17 true (.binOp .sub 3 (oT 20) (oC 1) 3),oG 22 17 true (.indexAddr 29 (oT 18) (oT 21)),oG 23 17 true (.load 3 (oT 22)),oG 24 17 true (.move (oT 5)),oG 25 17 true (.binOp .eql 3 (oT 23) (oT 24) 3),oO 26 (.pick (oT 17) (oT 25) (.const (.bool false)))]) (.cond (oT 26) .skip (.exit 2))) (.block 3 (.draw [oM 27 3,oO 28 (.build 100 #[(0,(oC 3))]),oO 29 (.buildSlice 91 1 #[(0,(oT 28))]),oO 30 (.call (.mk (.builtin .append) #[(oT 27),(oT 29)] #[91,91])),oM 31 4,oM 32 4,oN 33 32 29,oO 34 (.binOp .sub 3 (oT 33) (oC 1) 3),oO 35 (.slice 29 (oT 31) none (some (oT 34)) none),oA 3 30,oA 4 35] (.op 0 (.op 1 (.op 4 (.op 5 (.op 6 (.op 7 (.op 8 (.op 2 (.op 3 (.op 9 (.op 10 .done)))))))))))))))) (.seq (.seq (.reg [oF 36 103 6 0,oL 37 5 36,oO 38 (.binOp .eql 5 (oT 37) (oD 46) 5)]) (.cond (oT 38) (.seq (.reg [oM 39 3,oF 40 103 6 1,oL 41 9 40,oO 42 (.build 100 #[(0,(oC 1)),(2,(oT 41))]),oO 43 (.buildSlice 91 1 #[(0,(oT 42))]),oO 44 (.call (.mk (.builtin .append) #[(oT 39),(oT 43)] #[91,91])),oA 3 44]) (.exit 1)) .skip)) (.draw [oM 45 3,oF 46 103 6 0,oL 47 5 46,oO 48 (.build 100 #[(0,(oC 2)),(1,(oT 47))]),oO 49 (.buildSlice 91 1 #[(0,(oT 48))]),oO 50 (.call (.mk (.builtin .append) #[(oT 45),(oT 49)] #[91,91])),oM 51 4,oM 52 5,oF 53 103 6 3,oL 54 3 53,oO 55 (.binOp .add 3 (oT 52) (oT 54) 3),oO 56 (.buildSlice 29 1 #[(0,(oT 55))]),oO 57 (.call (.mk (.builtin .append) #[(oT 51),(oT 56)] #[29,29])),oA 3 50,oA 4 57] (.op 0 (.op 1 (.op 2 (.op 3 (.op 6 (.op 7 (.op 8 (.both (.op 4 (.both (.op 5 (.op 9 (.op 10 (.op 11 (.op 12 (.op 13 (.op 14 .done))))))) (.op 9 (.op 10 (.both (.op 5 (.op 11 (.op 12 (.op 13 (.op 14 .done))))) (.op 11 (.op 5 (.op 12 (.op 13 (.op 14 .done)))))))))) (.op 9 (.op 10 (.both (.op 4 (.both (.op 5 (.op 11 (.op 12 (.op 13 (.op 14 .done))))) (.op 11 (.op 5 (.op 12 (.op 13 (.op 14 .done))))))) (.op 11 (.op 4 (.op 5 (.op 12 (.op 13 (.op 14 .done))))))))))))))))))))
noncomputable def J5a:AC:=
 (.seq (.reg [oO 2 (.assign (.const (.slice none 0 0)))]) (.seq (.reg [oO 3 (.assign (.const (.slice none 0 0)))]) (.seq (.reg [oO 4 (.assign (.const (.slice none 0 0)))]) (.seq (.seq (.reg [oM 7 0,oN 8 7 51,oO 9 (.move (oC 0))]) (.block 0 (.loop (.seq (.reg [oO 10 (.binOp .lss 3 (oT 9) (oT 8) 3)]) (.seq (.cond (oT 10) .skip (.exit 0)) (.seq (.block 1 (.seq (.reg [oM 11 9,oI 12 51 7 9,oL 13 103 12,oO 6 (.alloc 103),oA 5 11,oS (.store 103 (oT 6) (oT 13))]) ac_tree_events_c1)) (.reg [oO 58 (.binOp .add 3 (oT 9) (oC 1) 3),oM 9 58]))))))) (.seq (.seq (.reg [oM 59 4,oN 60 59 29,oO 61 (.move (oC 0))]) (.block 4 (.loop (.seq (.reg [oO 62 (.binOp .lss 3 (oT 61) (oT 60) 3)]) (.seq (.cond (oT 62) .skip (.exit 4)) (.seq (.block 5 (.reg [oM 63 3,oO 64 (.build 100 #[(0,(oC 3))]),oO 65 (.buildSlice 91 1 #[(0,(oT 64))]),oO 66 (.call (.mk (.builtin .append) #[(oT 63),(oT 65)] #[91,91])),oA 3 66])) (.reg [oO 67 (.binOp .add 3 (oT 61) (oC 1) 3),oM 61 67]))))))) (.seq (.reg [oM 68 3,oA 2 68]) .ret))))))
theorem enter_tree_events:EN J5a [(ResultVar.tmp 2)] 69 78:=acE Tryz.func78 (ann:=ann_tree_events)
def K3.w (a0_:List Za) (Q:(List Zm)→Prop):Prop:=
 X2 (σ:=(List Zm)×(List Int)×Int) (fun ⟨a1,a2,a3⟩ next1=>
  if a3 < (a0_.length:Int) then
   (0≤a3) ∧
   ∃ v1:Za,a0_[a3.toNat]? = some v1 ∧
   wcut (α:=(List Zm)×(List Int)) (fun k1=>
    X2 (σ:=(List Zm)×(List Int)) (fun ⟨a6,a7⟩ next2=>
     if 0 < (a7.length:Int) then
      (I64 ((a7.length:Int) - 1)) ∧
      (0≤(a7.length:Int) - 1) ∧
      ∃ v2:Int,a7[((a7.length:Int) - 1).toNat]? = some v2 ∧
      if v2 = a3 then
       (I64 ((a7.length:Int) - 1)) ∧
       (0≤((a7.length:Int) - 1).toNat∧((a7.length:Int) - 1).toNat≤a7.length) ∧
       ((a6.length+([(⟨3,0,(ByteArray.mk #[]),0⟩:Zm)]:List Zm).length) * 40≤140737488355328) ∧
       next2 (a6++([(⟨3,0,(ByteArray.mk #[]),0⟩:Zm)]:List Zm),a7.take (((a7.length:Int) - 1).toNat))
      else
       k1 (a6,a7)
     else
      k1 (a6,a7)) (a1,a2)) (fun ⟨a4,a5⟩=>
    if v1.Kind = 46 then
     ((a4.length+([(⟨1,0,v1.Text,0⟩:Zm)]:List Zm).length) * 40≤140737488355328) ∧
     (I64 (a3+1)) ∧
     next1 (a4++([(⟨1,0,v1.Text,0⟩:Zm)]:List Zm),a5,a3+1)
    else
     ((a4.length+([(⟨2,v1.Kind,(ByteArray.mk #[]),0⟩:Zm)]:List Zm).length) * 40≤140737488355328) ∧
     (I64 (a3+v1.Size)) ∧
     ((a5.length+([a3+v1.Size]:List Int).length) * 8≤140737488355328) ∧
     (I64 (a3+1)) ∧
     next1 (a4++([(⟨2,v1.Kind,(ByteArray.mk #[]),0⟩:Zm)]:List Zm),a5++([a3+v1.Size]:List Int),a3+1))
  else
   X2 (σ:=(List Zm)×Int) (fun ⟨a8,a9⟩ next3=>
    if a9 < (a2.length:Int) then
     ((a8.length+([(⟨3,0,(ByteArray.mk #[]),0⟩:Zm)]:List Zm).length) * 40≤140737488355328) ∧
     (I64 (a9+1)) ∧
     next3 (a8++([(⟨3,0,(ByteArray.mk #[]),0⟩:Zm)]:List Zm),a9+1)
    else
     Q a8) (a1,0)) (([]:List Zm),([]:List Int),0)
theorem K3.ok {a0_:List Za} {Q:(List Zm)→Prop} (hm:K3.w a0_ Q) (h0:Hp):Zo Tryz.prog n_tree_events [(.isl 4 (a0_.map Za.enc))] h0 (Back h0 (fun r=>(.isl 4 (r.map Zm.enc))) Q):=by
 refine enter_tree_events ?_
 unfold K3.w at hm
 have H:=AM.Own.nil h0
 try simp -implicitDefEqProofs (disch:=omega) only [push_cast,seval,J5a]
 obtain ⟨inv1,mu1,hi1,hs1⟩:=hm
 replace H:=H.addNil 4 (some (100,0))
 replace H:=H.addNil 1 (some (3,0))
 replace H:=H.pm [0,1]
 refine Z7 (σ:=((List Zm)×(List Int)×Int)×AV×AV×Hp) (fun ⟨⟨a1,a2,a3⟩,x1,x2,h1⟩=>⟨(((((List.replicate 69 AV.any).set 3 x1).set 4 x2).set 7 (.isl 4 (a0_.map Za.enc))).set 8 (aint (a0_.length:Int))).set 9 (aint a3),h1⟩) (fun ⟨⟨a1,a2,a3⟩,x1,x2,h1⟩=>inv1 (a1,a2,a3)∧AM.Own h0 h1 [⟨x1,false,4,a1.map Zm.enc,some (100,0)⟩,⟨x2,false,1,a2.map Yd,some (3,0)⟩]) (fun ⟨⟨a1,a2,a3⟩,x1,x2,h1⟩=>mu1 (a1,a2,a3)) ⟨(([]:List Zm),([]:List Int),0),anil,anil,h0⟩ (rtw) ⟨hi1,H⟩ ?_
 rintro ⟨⟨a1,a2,a3⟩,x1,x2,h1⟩ ⟨hi1,H⟩
 have hm:=hs1 _ hi1
 dsimp only at hm H ⊢
 refine sg0 ?_
 refine fkc (fun c1=>?_) fun c1=>?_
 ·replace hm:=ifp hm c1
  obtain ⟨z1,v1,i1,hm⟩:=hm
  refine sg (ai (eq_true c1) (ai (eq_true z1) i1)) ?_
  refine H.newR [(.val (.int .u8 0)),(astr (ByteArray.mk #[])),(aint 0),(aint 0)] rfl (fun b1 h2 H=>?_)
  refine sg (ai (eq_true c1) (ai (eq_true z1) (ai i1 (H.p 2 rfl)))) ?_
  refine H.stP 2 (Za.enc v1) rfl rfl rfl rfl (Nat.le_of_ble_eq_true rfl) rfl (fun h3 H=>?_)
  refine sg (ai (eq_true c1) (ai (eq_true z1) (ai i1 (H.p 2 rfl)))) ?_
  obtain ⟨k1,hm,hk1⟩:=Yn hm
  obtain ⟨M1,hM1⟩:∃ M:AM.St→Prop,M = (fun s'=>∃ (a4:List Zm) (a5:List Int) (x3:AV) (x4:AV) (h4:Hp),Like s'.tm ((((((((List.replicate 69 none).set 3 (some x3)).set 4 (some x4)).set 5 (some (aint a3))).set 6 (some (.optr b1 4 0 0))).set 7 (some (.isl 4 (a0_.map Za.enc)))).set 8 (some (aint (a0_.length:Int)))).set 9 (some (aint a3)))∧s'.h = h4∧AM.Own h0 h4 [⟨x3,false,4,a4.map Zm.enc,some (100,0)⟩,⟨x4,false,1,a5.map Yd,some (3,0)⟩,⟨(.optr b1 4 0 0),true,4,[(Za.enc v1)],some (103,4)⟩]∧k1 (a4,a5)):=⟨_,rfl⟩
  refine Xe M1 ?_ ?_
  ·refine sg (ai (eq_true c1) (ai (eq_true z1) (ai i1 (H.p 2 rfl)))) ?_
   obtain ⟨inv2,mu2,hi2,hs2⟩:=hm
   replace H:=H.pm [0,1,2]
   refine Z7 (σ:=((List Zm)×(List Int))×AV×AV×Hp) (fun ⟨⟨a6,a7⟩,x5,x6,h5⟩=>⟨(((((((List.replicate 69 AV.any).set 3 x5).set 4 x6).set 5 (aint a3)).set 6 (.optr b1 4 0 0)).set 7 (.isl 4 (a0_.map Za.enc))).set 8 (aint (a0_.length:Int))).set 9 (aint a3),h5⟩) (fun ⟨⟨a6,a7⟩,x5,x6,h5⟩=>inv2 (a6,a7)∧AM.Own h0 h5 [⟨x5,false,4,a6.map Zm.enc,some (100,0)⟩,⟨x6,false,1,a7.map Yd,some (3,0)⟩,⟨(.optr b1 4 0 0),true,4,[(Za.enc v1)],some (103,4)⟩]) (fun ⟨⟨a6,a7⟩,x5,x6,h5⟩=>mu2 (a6,a7)) ⟨(a1,a2),x1,x2,h3⟩ (rtw) ⟨hi2,H⟩ ?_
   rintro ⟨⟨a6,a7⟩,x5,x6,h5⟩ ⟨hi2,H⟩
   have hm:=hs2 _ hi2
   dsimp only at hm H ⊢
   refine sg (ai (eq_true c1) (ai (eq_true z1) (ai i1 (ai (H.lenE 1 rfl Wua) (H.p 2 rfl))))) ?_
   refine gfk (fun c2=>?_) fun c2=>?_
   ·replace hm:=ifp hm c2
    obtain ⟨w1,hm⟩:=hm
    have F1:=ai (eq_true c1) (ai (eq_true z1) (ai i1 (ai (eq_true c2) (wrap_i64 _ w1))))
    refine sg (ai F1 (ai (H.lenE 1 rfl Wua) (H.p 2 rfl))) ?_
    obtain ⟨z2,v2,i2,hm⟩:=hm
    obtain ⟨b2,o1,rfl,qb,qc,qd,qe⟩:=H.row (k:=((a7.length:Int) - 1).toNat) (r:=Yd v2) 1 rfl (gmp i2)
    try rw [List.length_map] at qe
    have q1:=qb
    have q2:=qc
    have q3:=qd
    have q4:=eq_true qe
    rw [List.length_map] at H
    refine sg (ai F1 (ai (eq_true z2) (ai q1 (ai q2 (ai q3 (ai q4 (H.p 2 rfl))))))) ?_
    refine fkc (fun c3=>?_) fun c3=>?_
    ·replace hm:=ifp hm c3
     obtain ⟨w2,w3,hm⟩:=hm
     have F2:=ai F1 (ai (eq_true z2) (ai (eq_true c3) (wrap_i64 _ w2)))
     refine sg (ai F2 (ai q1 (ai q2 (ai q3 (ai q4 (ai (H.lenE 1 rfl Wua) (H.p 2 rfl))))))) ?_
     refine H.slc 1 rfl Wua tab_3 rfl rfl (by simp only [Vy,push_cast,eq_true c1,eq_true z1,i1,eq_true c2,wrap_i64 _ w1,eq_true z2,q1,q2,q3,q4,eq_true c3,wrap_i64 _ w2]) w3.1 (by rw [List.length_map]; exact w3.2) (fun y1 vw1=>?_)
     refine sg (ai F2 (ai q1 (ai q2 (ai q3 (ai q4 (H.p 2 rfl)))))) ?_
     refine H.newL (E:=Zm.enc) ([(⟨3,0,(ByteArray.mk #[]),0⟩:Zm)]:List Zm) rfl rfl (fun b3 h6 H=>?_)
     refine sg (ai F2 (ai q1 (ai q2 (ai q3 (ai q4 (ai (H.src (e:=100) 3 rfl) (H.p 2 rfl))))))) ?_
     obtain ⟨w4,hm⟩:=hm
     refine H.appL (E:=Zm.enc) 0 ([(⟨3,0,(ByteArray.mk #[]),0⟩:Zm)]:List Zm) rfl rfl rfl (by decide) (by decide) w4 (fun x7 h7 H=>?_)
     refine sg (ai F2 (ai q1 (ai q2 (ai q3 (ai q4 (H.p 2 rfl)))))) ?_
     replace H:=H.trimV 1 rfl vw1
     rw [← List.map_take] at H
     replace H:AM.Own h0 h7 [⟨x7,false,4,(a6++([(⟨3,0,(ByteArray.mk #[]),0⟩:Zm)]:List Zm)).map Zm.enc,some (100,0)⟩,⟨y1,false,1,(a7.take (((a7.length:Int) - 1).toNat)).map Yd,some (3,0)⟩,⟨(.optr b1 4 0 0),true,4,[(Za.enc v1)],some (103,4)⟩,⟨(.osl b3 4 0 1),false,4,([(⟨3,0,(ByteArray.mk #[]),0⟩:Zm)]:List Zm).map Zm.enc,some (100,0)⟩]:=H
     replace H:=H.pm [0,1,2]
     exact ⟨⟨(a6++([(⟨3,0,(ByteArray.mk #[]),0⟩:Zm)]:List Zm),a7.take (((a7.length:Int) - 1).toNat)),x7,y1,h7⟩,hm.2,⟨hm.1,H⟩,rtw⟩
    replace hm:=ifn hm c3
    refine sg (ai F1 (ai (eq_true z2) (ai q1 (ai q2 (ai q3 (ai q4 (ai (eq_false c3) (H.p 2 rfl)))))))) ?_
    replace H:=H.pm [0,1,2]
    subst hM1
    exact ⟨a6,a7,x5,(.osl b2 1 0 a7.length),h5,lkt,rfl,H,hm⟩
   replace hm:=ifn hm c2
   refine sg (ai (eq_true c1) (ai (eq_true z1) (ai i1 (ai (eq_false c2) (H.p 2 rfl))))) ?_
   replace H:=H.pm [0,1,2]
   subst hM1
   exact ⟨a6,a7,x5,x6,h5,lkt,rfl,H,hm⟩
  subst hM1
  rintro ⟨tm,h4⟩ ⟨a4,a5,x3,x4,_,hL,rfl,H,hm⟩
  dsimp only at hL H
  obtain ⟨D,rfl⟩:=hL.fill 0
  replace hm:=hk1 _ hm
  refine sg (ai (eq_true c1) (ai (eq_true z1) (ai i1 (H.p 2 rfl)))) ?_
  refine fkc (fun c4=>?_) fun c4=>?_
  ·replace hm:=ifp hm c4
   refine sg (ai (eq_true c1) (ai (eq_true z1) (ai i1 (ai (eq_true c4) (H.p 2 rfl))))) ?_
   refine H.newL (E:=Zm.enc) ([(⟨1,0,v1.Text,0⟩:Zm)]:List Zm) rfl rfl (fun b4 h8 H=>?_)
   refine sg (ai (eq_true c1) (ai (eq_true z1) (ai i1 (ai (eq_true c4) (ai (H.src (e:=100) 3 rfl) (H.p 2 rfl)))))) ?_
   obtain ⟨w5,hm⟩:=hm
   refine H.appL (E:=Zm.enc) 0 ([(⟨1,0,v1.Text,0⟩:Zm)]:List Zm) rfl rfl rfl (by decide) (by decide) w5 (fun x8 h9 H=>?_)
   obtain ⟨w6,hm⟩:=hm
   have F3:=ai (eq_true c1) (ai (eq_true z1) (ai i1 (ai (eq_true c4) (wrap_i64 _ w6))))
   refine sg (ai F3 (H.p 2 rfl)) ?_
   replace H:=H.pm [0,1]
   exact ⟨⟨(a4++([(⟨1,0,v1.Text,0⟩:Zm)]:List Zm),a5,a3+1),x8,x4,h9⟩,hm.2,⟨hm.1,H⟩,rtw⟩
  replace hm:=ifn hm c4
  refine sg (ai (eq_true c1) (ai (eq_true z1) (ai i1 (ai (eq_false c4) (H.p 2 rfl))))) ?_
  refine ⟨?_,?_⟩
  ·refine H.newL (E:=Zm.enc) ([(⟨2,v1.Kind,(ByteArray.mk #[]),0⟩:Zm)]:List Zm) rfl rfl (fun b5 h10 H=>?_)
   refine sg (ai (eq_true c1) (ai (eq_true z1) (ai i1 (ai (eq_false c4) (H.p 2 rfl))))) ?_
   refine ⟨?_,?_⟩
   ·refine sg (ai (eq_true c1) (ai (eq_true z1) (ai i1 (ai (eq_false c4) (ai (H.src (e:=100) 3 rfl) (H.p 2 rfl)))))) ?_
    obtain ⟨w7,hm⟩:=hm
    refine H.appL (E:=Zm.enc) 0 ([(⟨2,v1.Kind,(ByteArray.mk #[]),0⟩:Zm)]:List Zm) rfl rfl rfl (by decide) (by decide) w7 (fun x9 h11 H=>?_)
    obtain ⟨w8,hm⟩:=hm
    have F4:=ai (eq_true c1) (ai (eq_true z1) (ai i1 (ai (eq_false c4) (wrap_i64 _ w8))))
    refine sg (ai F4 (H.p 2 rfl)) ?_
    refine H.newL (E:=Yd) ([a3+v1.Size]:List Int) rfl rfl (fun b6 h12 H=>?_)
    refine sg (ai F4 (ai (H.src (e:=3) 4 rfl) (H.p 2 rfl))) ?_
    obtain ⟨w9,hm⟩:=hm
    refine H.appL (E:=Yd) 1 ([a3+v1.Size]:List Int) rfl rfl rfl (by decide) (by decide) w9 (fun x10 h13 H=>?_)
    obtain ⟨w10,hm⟩:=hm
    refine sg (ai F4 (ai (wrap_i64 _ w10) (H.p 2 rfl))) ?_
    replace H:=H.pm [0,1]
    exact ⟨⟨(a4++([(⟨2,v1.Kind,(ByteArray.mk #[]),0⟩:Zm)]:List Zm),a5++([a3+v1.Size]:List Int),a3+1),x9,x10,h13⟩,hm.2,⟨hm.1,H⟩,rtw⟩
   ·replace hm:=ai hm.2.1 (ai hm.1 (ai hm.2.2.1 (ai hm.2.2.2.1 (hm.2.2.2.2))))
    obtain ⟨w7,hm⟩:=hm
    refine ⟨?_,?_⟩
    ·have F4:=ai (eq_true c1) (ai (eq_true z1) (ai i1 (ai (eq_false c4) (wrap_i64 _ w7))))
     refine sg (ai F4 (ai (H.src (e:=100) 3 rfl) (H.p 2 rfl))) ?_
     obtain ⟨w8,hm⟩:=hm
     refine H.appL (E:=Zm.enc) 0 ([(⟨2,v1.Kind,(ByteArray.mk #[]),0⟩:Zm)]:List Zm) rfl rfl rfl (by decide) (by decide) w8 (fun x9 h11 H=>?_)
     refine sg (ai F4 (H.p 2 rfl)) ?_
     refine H.newL (E:=Yd) ([a3+v1.Size]:List Int) rfl rfl (fun b6 h12 H=>?_)
     refine sg (ai F4 (ai (H.src (e:=3) 4 rfl) (H.p 2 rfl))) ?_
     obtain ⟨w9,hm⟩:=hm
     refine H.appL (E:=Yd) 1 ([a3+v1.Size]:List Int) rfl rfl rfl (by decide) (by decide) w9 (fun x10 h13 H=>?_)
     obtain ⟨w10,hm⟩:=hm
     refine sg (ai F4 (ai (wrap_i64 _ w10) (H.p 2 rfl))) ?_
     replace H:=H.pm [0,1]
     exact ⟨⟨(a4++([(⟨2,v1.Kind,(ByteArray.mk #[]),0⟩:Zm)]:List Zm),a5++([a3+v1.Size]:List Int),a3+1),x9,x10,h13⟩,hm.2,⟨hm.1,H⟩,rtw⟩
    ·refine H.newL (E:=Yd) ([a3+v1.Size]:List Int) rfl rfl (fun b6 h11 H=>?_)
     have F4:=ai (eq_true c1) (ai (eq_true z1) (ai i1 (ai (eq_false c4) (wrap_i64 _ w7))))
     refine sg (ai F4 (ai (H.src (e:=100) 3 rfl) (H.p 2 rfl))) ?_
     obtain ⟨w8,hm⟩:=hm
     refine H.appL (E:=Zm.enc) 0 ([(⟨2,v1.Kind,(ByteArray.mk #[]),0⟩:Zm)]:List Zm) rfl rfl rfl (by decide) (by decide) w8 (fun x9 h12 H=>?_)
     refine sg (ai F4 (ai (H.src (e:=3) 4 rfl) (H.p 2 rfl))) ?_
     obtain ⟨w9,hm⟩:=hm
     refine H.appL (E:=Yd) 1 ([a3+v1.Size]:List Int) rfl rfl rfl (by decide) (by decide) w9 (fun x10 h13 H=>?_)
     obtain ⟨w10,hm⟩:=hm
     refine sg (ai F4 (ai (wrap_i64 _ w10) (H.p 2 rfl))) ?_
     replace H:=H.pm [0,1]
     exact ⟨⟨(a4++([(⟨2,v1.Kind,(ByteArray.mk #[]),0⟩:Zm)]:List Zm),a5++([a3+v1.Size]:List Int),a3+1),x9,x10,h13⟩,hm.2,⟨hm.1,H⟩,rtw⟩
  ·replace hm:=ai hm.2.1 (ai hm.1 (ai hm.2.2.1 (ai hm.2.2.2.1 (hm.2.2.2.2))))
   obtain ⟨w7,hm⟩:=hm
   refine ⟨?_,?_⟩
   ·refine H.newL (E:=Zm.enc) ([(⟨2,v1.Kind,(ByteArray.mk #[]),0⟩:Zm)]:List Zm) rfl rfl (fun b5 h10 H=>?_)
    have F4:=ai (eq_true c1) (ai (eq_true z1) (ai i1 (ai (eq_false c4) (wrap_i64 _ w7))))
    refine sg (ai F4 (H.p 2 rfl)) ?_
    refine ⟨?_,?_⟩
    ·refine sg (ai F4 (ai (H.src (e:=100) 3 rfl) (H.p 2 rfl))) ?_
     obtain ⟨w8,hm⟩:=hm
     refine H.appL (E:=Zm.enc) 0 ([(⟨2,v1.Kind,(ByteArray.mk #[]),0⟩:Zm)]:List Zm) rfl rfl rfl (by decide) (by decide) w8 (fun x9 h11 H=>?_)
     refine sg (ai F4 (H.p 2 rfl)) ?_
     refine H.newL (E:=Yd) ([a3+v1.Size]:List Int) rfl rfl (fun b6 h12 H=>?_)
     refine sg (ai F4 (ai (H.src (e:=3) 4 rfl) (H.p 2 rfl))) ?_
     obtain ⟨w9,hm⟩:=hm
     refine H.appL (E:=Yd) 1 ([a3+v1.Size]:List Int) rfl rfl rfl (by decide) (by decide) w9 (fun x10 h13 H=>?_)
     obtain ⟨w10,hm⟩:=hm
     refine sg (ai F4 (ai (wrap_i64 _ w10) (H.p 2 rfl))) ?_
     replace H:=H.pm [0,1]
     exact ⟨⟨(a4++([(⟨2,v1.Kind,(ByteArray.mk #[]),0⟩:Zm)]:List Zm),a5++([a3+v1.Size]:List Int),a3+1),x9,x10,h13⟩,hm.2,⟨hm.1,H⟩,rtw⟩
    ·refine H.newL (E:=Yd) ([a3+v1.Size]:List Int) rfl rfl (fun b6 h11 H=>?_)
     refine sg (ai F4 (ai (H.src (e:=100) 3 rfl) (H.p 2 rfl))) ?_
     obtain ⟨w8,hm⟩:=hm
     refine H.appL (E:=Zm.enc) 0 ([(⟨2,v1.Kind,(ByteArray.mk #[]),0⟩:Zm)]:List Zm) rfl rfl rfl (by decide) (by decide) w8 (fun x9 h12 H=>?_)
     refine sg (ai F4 (ai (H.src (e:=3) 4 rfl) (H.p 2 rfl))) ?_
     obtain ⟨w9,hm⟩:=hm
     refine H.appL (E:=Yd) 1 ([a3+v1.Size]:List Int) rfl rfl rfl (by decide) (by decide) w9 (fun x10 h13 H=>?_)
     obtain ⟨w10,hm⟩:=hm
     refine sg (ai F4 (ai (wrap_i64 _ w10) (H.p 2 rfl))) ?_
     replace H:=H.pm [0,1]
     exact ⟨⟨(a4++([(⟨2,v1.Kind,(ByteArray.mk #[]),0⟩:Zm)]:List Zm),a5++([a3+v1.Size]:List Int),a3+1),x9,x10,h13⟩,hm.2,⟨hm.1,H⟩,rtw⟩
   ·refine H.newL (E:=Yd) ([a3+v1.Size]:List Int) rfl rfl (fun b5 h10 H=>?_)
    have F4:=ai (eq_true c1) (ai (eq_true z1) (ai i1 (ai (eq_false c4) (wrap_i64 _ w7))))
    refine sg (ai F4 (H.p 2 rfl)) ?_
    refine H.newL (E:=Zm.enc) ([(⟨2,v1.Kind,(ByteArray.mk #[]),0⟩:Zm)]:List Zm) rfl rfl (fun b6 h11 H=>?_)
    refine sg (ai F4 (ai (H.src (e:=100) 4 rfl) (H.p 2 rfl))) ?_
    obtain ⟨w8,hm⟩:=hm
    refine H.appL (E:=Zm.enc) 0 ([(⟨2,v1.Kind,(ByteArray.mk #[]),0⟩:Zm)]:List Zm) rfl rfl rfl (by decide) (by decide) w8 (fun x9 h12 H=>?_)
    refine sg (ai F4 (ai (H.src (e:=3) 3 rfl) (H.p 2 rfl))) ?_
    obtain ⟨w9,hm⟩:=hm
    refine H.appL (E:=Yd) 1 ([a3+v1.Size]:List Int) rfl rfl rfl (by decide) (by decide) w9 (fun x10 h13 H=>?_)
    obtain ⟨w10,hm⟩:=hm
    refine sg (ai F4 (ai (wrap_i64 _ w10) (H.p 2 rfl))) ?_
    replace H:=H.pm [0,1]
    exact ⟨⟨(a4++([(⟨2,v1.Kind,(ByteArray.mk #[]),0⟩:Zm)]:List Zm),a5++([a3+v1.Size]:List Int),a3+1),x9,x10,h13⟩,hm.2,⟨hm.1,H⟩,rtw⟩
 replace hm:=ifn hm c1
 refine sg (ai (eq_false c1) (H.lenE 1 rfl Wua)) ?_
 obtain ⟨inv3,mu3,hi3,hs3⟩:=hm
 replace H:=H.pm [0]
 refine Z7 (σ:=((List Zm)×Int)×AV×Hp) (fun ⟨⟨a8,a9⟩,x11,h14⟩=>⟨(((List.replicate 69 AV.any).set 3 x11).set 60 (aint (a2.length:Int))).set 61 (aint a9),h14⟩) (fun ⟨⟨a8,a9⟩,x11,h14⟩=>inv3 (a8,a9)∧AM.Own h0 h14 [⟨x11,false,4,a8.map Zm.enc,some (100,0)⟩]) (fun ⟨⟨a8,a9⟩,x11,h14⟩=>mu3 (a8,a9)) ⟨(a1,0),x1,h1⟩ (rtw) ⟨hi3,H⟩ ?_
 rintro ⟨⟨a8,a9⟩,x11,h14⟩ ⟨hi3,H⟩
 have hm:=hs3 _ hi3
 dsimp only at hm H ⊢
 refine sg (eq_false c1) ?_
 refine fkc (fun c5=>?_) fun c5=>?_
 ·replace hm:=ifp hm c5
  refine sg (ai (eq_false c1) (eq_true c5)) ?_
  refine H.newL (E:=Zm.enc) ([(⟨3,0,(ByteArray.mk #[]),0⟩:Zm)]:List Zm) rfl rfl (fun b7 h15 H=>?_)
  refine sg (ai (eq_false c1) (ai (eq_true c5) (H.src (e:=100) 1 rfl))) ?_
  obtain ⟨w11,hm⟩:=hm
  refine H.appL (E:=Zm.enc) 0 ([(⟨3,0,(ByteArray.mk #[]),0⟩:Zm)]:List Zm) rfl rfl rfl (by decide) (by decide) w11 (fun x12 h16 H=>?_)
  obtain ⟨w12,hm⟩:=hm
  refine sg (ai (eq_false c1) (ai (eq_true c5) (wrap_i64 _ w12))) ?_
  replace H:=H.pm [0]
  exact ⟨⟨(a8++([(⟨3,0,(ByteArray.mk #[]),0⟩:Zm)]:List Zm),a9+1),x12,h16⟩,hm.2,⟨hm.1,H⟩,rtw⟩
 replace hm:=ifn hm c5
 refine sg (ai (eq_false c1) (eq_false c5)) ?_
 obtain ⟨h17,s1,H⟩:=H.freeze 0 rfl
 exact Zb (.inl rfl) a8 _ rfl s1 H.sub hm
abbrev n_tree_row_has:Nat:=122
noncomputable def Kha:AC:=
 (.seq (.reg [oO 4 (.assign (oC 0))]) (.seq (.reg [oO 5 (.assign (oC 0))]) (.seq (.seq (.reg [oM 8 0,oN 9 8 156,oO 10 (.move (oC 0))]) (.block 0 (.loop (.seq (.reg [oO 11 (.binOp .lss 3 (oT 10) (oT 9) 3)]) (.seq (.cond (oT 11) .skip (.exit 0)) (.seq (.block 1 (.seq (.reg [oI 12 156 8 10,oL 13 163 12,oO 7 (.alloc 163),oS (.store 163 (oT 7) (oT 13))]) (.seq (.reg [oF 14 163 7 0,oL 15 5 14,oM 16 1,oO 17 (.binOp .eql 5 (oT 15) (oT 16) 5)]) (.cond (oT 17) (.reg [oM 18 5,oO 19 (.binOp .add 3 (oT 18) (oC 1) 3),oA 5 19]) .skip)))) (.reg [oO 20 (.binOp .add 3 (oT 10) (oC 1) 3),oM 10 20]))))))) (.seq (.reg [oM 21 5,oA 4 21]) .ret))))
theorem Y5b:EN Kha [(ResultVar.tmp 4)] 22 122:=acE Tryz.func122 (ann:=Yy)
def Zs.w (a0_:List Zc) (a1_:Int) (Q:Int→Prop):Prop:=
 X2 (σ:=Int×Int) (fun ⟨a1,a2⟩ next1=>
  if a2 < (a0_.length:Int) then
   (0≤a2) ∧
   ∃ v1:Zc,a0_[a2.toNat]? = some v1 ∧
   if v1.kind = a1_ then
    (I64 (a1+1)) ∧
    (I64 (a2+1)) ∧
    next1 (a1+1,a2+1)
   else
    (I64 (a2+1)) ∧
    next1 (a1,a2+1)
  else
   Q a1) (0,0)
theorem Zs.ok {a0_:List Zc} {a1_:Int} {Q:Int→Prop} (hm:Zs.w a0_ a1_ Q) (h0:Hp):Zo Tryz.prog n_tree_row_has [(.isl 7 (a0_.map Zc.enc)),(.val (.int .u8 a1_))] h0 (Back h0 (fun r=>(aint r)) Q):=by
 refine Y5b ?_
 unfold Zs.w at hm
 have H:=AM.Own.nil h0
 try simp -implicitDefEqProofs (disch:=omega) only [push_cast,seval,Kha]
 obtain ⟨inv1,mu1,hi1,hs1⟩:=hm
 replace H:=H.pm []
 refine Z7 (σ:=(Int×Int)×Hp) (fun ⟨⟨a1,a2⟩,h1⟩=>⟨(((((List.replicate 22 AV.any).set 1 (.val (.int .u8 a1_))).set 5 (aint a1)).set 8 (.isl 7 (a0_.map Zc.enc))).set 9 (aint (a0_.length:Int))).set 10 (aint a2),h1⟩) (fun ⟨⟨a1,a2⟩,h1⟩=>inv1 (a1,a2)∧AM.Own h0 h1 []) (fun ⟨⟨a1,a2⟩,h1⟩=>mu1 (a1,a2)) ⟨(0,0),h0⟩ (rtw) ⟨hi1,H⟩ ?_
 rintro ⟨⟨a1,a2⟩,h1⟩ ⟨hi1,H⟩
 have hm:=hs1 _ hi1
 dsimp only at hm H ⊢
 refine sg0 ?_
 refine fkc (fun c1=>?_) fun c1=>?_
 ·replace hm:=ifp hm c1
  obtain ⟨z1,v1,i1,hm⟩:=hm
  refine sg (ai (eq_true c1) (ai (eq_true z1) i1)) ?_
  refine H.newR [(.val (.int .u8 0)),(aint 0),(aint 0),(aint 0),(Zk false),(aint 0),(aint 0)] rfl (fun b1 h2 H=>?_)
  refine sg (ai (eq_true c1) (ai (eq_true z1) (ai i1 (H.p 0 rfl)))) ?_
  refine H.stP 0 (Zc.enc v1) rfl rfl rfl rfl (Nat.le_of_ble_eq_true rfl) rfl (fun h3 H=>?_)
  refine sg (ai (eq_true c1) (ai (eq_true z1) (ai i1 (H.p 0 rfl)))) ?_
  refine fkc (fun c2=>?_) fun c2=>?_
  ·replace hm:=ifp hm c2
   obtain ⟨w1,w2,hm⟩:=hm
   have F1:=ai (eq_true c1) (ai (eq_true z1) (ai i1 (ai (eq_true c2) (ai (wrap_i64 _ w1) (wrap_i64 _ w2)))))
   refine sg (ai F1 (H.p 0 rfl)) ?_
   replace H:=H.pm []
   exact ⟨⟨(a1+1,a2+1),h3⟩,hm.2,⟨hm.1,H⟩,rtw⟩
  replace hm:=ifn hm c2
  obtain ⟨w3,hm⟩:=hm
  have F2:=ai (eq_true c1) (ai (eq_true z1) (ai i1 (ai (eq_false c2) (wrap_i64 _ w3))))
  refine sg (ai F2 (H.p 0 rfl)) ?_
  replace H:=H.pm []
  exact ⟨⟨(a1,a2+1),h3⟩,hm.2,⟨hm.1,H⟩,rtw⟩
 replace hm:=ifn hm c1
 refine sg (eq_false c1) ?_
 exact Zb (.inl rfl) a1 _ rfl (Zf.refl _ _) H.sub hm
end Go.Proofs.YtpkhmfedaaoalaaGreatDoor
