/- ItemsGlues: a part of its proof (packed by a program). -/
import Derived.Test.YtpkhmfedaaoalaaGreatDoorPln
set_option linter.all false
namespace Go.Proofs.YtpkhmfedaaoalaaGreatDoor
open Go Go.Proofs.YtpkhmfedaaoalaaGreatDoor.AM
set_option maxRecDepth 100000
set_option maxHeartbeats 4000000
abbrev n_norm_owners:Nat:=150
def ann_norm_owners:Nat→Ann
 | 6=>{ pure:=[],plan:=(.op 0 (.op 1 (.op 2 (.op 3 (.op 4 (.op 5 (.op 6 (.op 7 (.op 8 (.op 9 (.op 10 (.op 11 (.op 12 (.op 13 (.op 14 (.op 15 (.op 16 (.op 17 (.op 18 (.op 19 (.op 20 (.op 21 (.op 22 (.op 23 .done)))))))))))))))))))))))),ghost:=false,post:=false }
 | _=>{}
noncomputable def ac_norm_owners_c2:AC:=
 (.seq (.seq (.reg [oM 43 4,oN 44 43 29,oO 45 (.binOp .gtr 3 (oT 44) (oC 0) 3)]) (.cond (oT 45) (.reg [oM 46 3,oM 47 5,oM 48 4,oM 49 4,oN 50 49 29,oO 51 (.binOp .sub 3 (oT 50) (oC 1) 3),oI 52 29 48 51,oL 53 3 52,oI 54 29 46 47,oS (.store 3 (oT 54) (oT 53))]) .skip)) (.seq (.reg [oM 55 0,oM 56 5,oI 57 51 55 56,oF 58 103 57 0,oL 59 5 58,oO 60 (.call (.mk (.value (.func 43)) #[(.const (.string (ByteArray.mk #[49,50,51,112,105,99,110]))),(oT 59)] #[9,5])),oO 61 (.binOp .geq 3 (oT 60) (oC 0) 3)]) (.cond (oT 61) (.reg [oM 62 4,oM 63 5,oO 64 (.buildSlice 29 1 #[(0,(oT 63))]),oO 65 (.call (.mk (.builtin .append) #[(oT 62),(oT 64)] #[29,29])),oA 4 65]) .skip)))
noncomputable def ac_norm_owners_c1:AC:=
 (.seq (.block 2 (.loop (.seq (.seq (.draw [oM 14 4,oN 15 14 29,oO 16 (.binOp .gtr 3 (oT 15) (oC 0) 3),oM 17 16,oG 18 17 true (.move (oT 5)),oG 19 17 true (.move (oT 4)),oG 20 17 true (.move (oT 4)),oG 21 17 true (.call (.mk (.builtin .len) #[(oT 20)] #[29])),oG 22 17 true (.binOp .sub 3 (oT 21) (oC 1) 3),oG 23 17 true (.indexAddr 29 (oT 19) (oT 22)),oG 24 17 true (.load 3 (oT 23)),oG 25 17 true (.move (oT 0)),oG 26 17 true (.move (oT 4)),oG 27 17 true (.move (oT 4)),oG 28 17 true (.call (.mk (.builtin .len) #[(oT 27)] #[29])),oG 29 17 true (.binOp .sub 3 (oT 28) (oC 1) 3),oG 30 17 true (.indexAddr 29 (oT 26) (oT 29)),oG 31 17 true (.load 3 (oT 30)),oG 32 17 true (.indexAddr 51 (oT 25) (oT 31)),oG 33 17 true (.fieldAddr 103 (oT 32) 3),oG 34 17 true (.load 3 (oT 33)),oG 35 17 true (.binOp .add 3 (oT 24) (oT 34) 3),oG 36 17 true (.binOp .geq 3 (oT 18) (oT 35) 3),oO 37 (.pick (oT 17) (oT 36) (.const (.bool false)))] (.op 0 (.op 1 (.op 2 (.op 3 (.op 4 (.op 5 (.op 6 (.op 7 (.op 8 (.op 9 (.op 10 (.op 11 (.op 12 (.op 13 (.op 14 (.op 15 (.op 16 (.op 17 (.op 18 (.op 19 (.op 20 (.op 21 (.op 22 (.op 23 .done))))))))))))))))))))))))) (.cond (oT 37) .skip (.exit 2))) (.block 3 (.reg [oM 38 4,oM 39 4,oN 40 39 29,oO 41 (.binOp .sub 3 (oT 40) (oC 1) 3),oO 42 (.slice 29 (oT 38) none (some (oT 41)) none),oA 4 42]))))) ac_norm_owners_c2)
noncomputable def J8a:AC:=
 (.seq (.reg [oO 2 (.assign (.const (.slice none 0 0)))]) (.seq (.reg [oM 6 0,oN 7 6 51,oO 8 (.makeSlice 29 (oT 7) (oT 7)),oA 3 8]) (.seq (.reg [oO 4 (.assign (.const (.slice none 0 0)))]) (.seq (.seq (.reg [oM 9 0,oN 10 9 51,oO 11 (.move (oC 0))]) (.block 0 (.loop (.seq (.reg [oO 12 (.binOp .lss 3 (oT 11) (oT 10) 3)]) (.seq (.cond (oT 12) .skip (.exit 0)) (.seq (.block 1 (.seq (.reg [oM 13 11,oA 5 13]) ac_norm_owners_c1)) (.reg [oO 66 (.binOp .add 3 (oT 11) (oC 1) 3),oM 11 66]))))))) (.seq (.reg [oM 67 3,oA 2 67]) .ret)))))
theorem enter_norm_owners:EN J8a [(ResultVar.tmp 2)] 68 150:=acE Tryz.func150 (ann:=ann_norm_owners)
def K4.w (a0_:List Za) (Q:(List Int)→Prop):Prop:=
 (0≤(a0_.length:Int)∧(a0_.length:Int)≤(a0_.length:Int)∧8 * (a0_.length:Int)≤281474976710656) ∧
 X2 (σ:=(List Int)×(List Int)×Int) (fun ⟨a1,a2,a3⟩ next1=>
  if a3 < (a0_.length:Int) then
   wcut (α:=(List Int)) (fun k1=>
    X2 (σ:=(List Int)) (fun a5 next2=>
     if 0 < (a5.length:Int) then
      (I64 ((a5.length:Int) - 1)) ∧
      (0≤(a5.length:Int) - 1) ∧
      ∃ v1:Int,a5[((a5.length:Int) - 1).toNat]? = some v1 ∧
      (I64 ((a5.length:Int) - 1)) ∧
      (0≤v1) ∧
      ∃ v3:Za,a0_[v1.toNat]? = some v3 ∧
      (I64 (v1+v3.Size)) ∧
      if v1+v3.Size≤a3 then
       (I64 ((a5.length:Int) - 1)) ∧
       (0≤((a5.length:Int) - 1).toNat∧((a5.length:Int) - 1).toNat≤a5.length) ∧
       next2 (a5.take (((a5.length:Int) - 1).toNat))
      else
       k1 a5
     else
      k1 a5) a2) (fun a4=>
    wcut (α:=(List Int)×(List Int)) (fun k2=>
     if 0 < (a4.length:Int) then
      (I64 ((a4.length:Int) - 1)) ∧
      (0≤(a4.length:Int) - 1) ∧
      ∃ v4:Int,a4[((a4.length:Int) - 1).toNat]? = some v4 ∧
      (0≤a3) ∧
      ∃ v5:Int,a1[a3.toNat]? = some v5 ∧
      k2 (a1.set a3.toNat v4,a4)
     else
      k2 (a1,a4)) (fun ⟨a6,a7⟩=>
     (0≤a3) ∧
     ∃ v6:Za,a0_[a3.toNat]? = some v6 ∧
     strings_IndexByte.w (ByteArray.mk #[49,50,51,112,105,99,110]) v6.Kind (fun r1=>
      if 0≤r1 then
       ((a7.length+([a3]:List Int).length) * 8≤140737488355328) ∧
       (I64 (a3+1)) ∧
       next1 (a6,a7++([a3]:List Int),a3+1)
      else
       (I64 (a3+1)) ∧
       next1 (a6,a7,a3+1))))
  else
   Q a1) (List.replicate a0_.length 0,([]:List Int),0)
theorem K4.ok {a0_:List Za} {Q:(List Int)→Prop} (hm:K4.w a0_ Q) (h0:Hp):Zo Tryz.prog n_norm_owners [(.isl 4 (a0_.map Za.enc))] h0 (Back h0 (fun r=>(.isl 1 (r.map Yd))) Q):=by
 refine enter_norm_owners ?_
 unfold K4.w at hm
 have H:=AM.Own.nil h0
 try simp -implicitDefEqProofs (disch:=omega) only [push_cast,seval,J8a]
 obtain ⟨w1,hm⟩:=hm
 first | refine ⟨by decide,by omega,by omega,by omega,by omega,?_⟩ | refine ⟨by omega,by omega,by omega,by omega,?_⟩ | refine ⟨by omega,by omega,by omega,?_⟩ | refine ⟨by omega,by omega,?_⟩ | refine ⟨by omega,?_⟩ | skip
 refine H.newL (E:=Yd) (List.replicate a0_.length 0) (by rw [List.map_replicate]; rfl) (List.length_replicate) (fun b1 h1 H=>?_)
 refine sg0 ?_
 obtain ⟨inv1,mu1,hi1,hs1⟩:=hm
 replace H:=H.addNil 1 (some (3,0))
 replace H:=H.pm [0,1]
 refine Z7 (σ:=((List Int)×(List Int)×Int)×AV×AV×Hp) (fun ⟨⟨a1,a2,a3⟩,x1,x2,h2⟩=>⟨(((((List.replicate 68 AV.any).set 0 (.isl 4 (a0_.map Za.enc))).set 3 x1).set 4 x2).set 10 (aint (a0_.length:Int))).set 11 (aint a3),h2⟩) (fun ⟨⟨a1,a2,a3⟩,x1,x2,h2⟩=>inv1 (a1,a2,a3)∧AM.Own h0 h2 [⟨x1,false,1,a1.map Yd,some (3,0)⟩,⟨x2,false,1,a2.map Yd,some (3,0)⟩]) (fun ⟨⟨a1,a2,a3⟩,x1,x2,h2⟩=>mu1 (a1,a2,a3)) ⟨(List.replicate a0_.length 0,([]:List Int),0),(.osl b1 1 0 a0_.length),anil,h1⟩ (rtw) ⟨hi1,H⟩ ?_
 rintro ⟨⟨a1,a2,a3⟩,x1,x2,h2⟩ ⟨hi1,H⟩
 have hm:=hs1 _ hi1
 dsimp only at hm H ⊢
 refine sg0 ?_
 refine fkc (fun c1=>?_) fun c1=>?_
 ·replace hm:=ifp hm c1
  refine sg (eq_true c1) ?_
  obtain ⟨k1,hm,hk1⟩:=Yn hm
  obtain ⟨M1,hM1⟩:∃ M:AM.St→Prop,M = (fun s'=>∃ (a4:List Int) (x3:AV) (h3:Hp),Like s'.tm (((((((List.replicate 68 none).set 0 (some (.isl 4 (a0_.map Za.enc)))).set 3 (some x1)).set 4 (some x3)).set 5 (some (aint a3))).set 10 (some (aint (a0_.length:Int)))).set 11 (some (aint a3)))∧s'.h = h3∧AM.Own h0 h3 [⟨x1,false,1,a1.map Yd,some (3,0)⟩,⟨x3,false,1,a4.map Yd,some (3,0)⟩]∧k1 a4):=⟨_,rfl⟩
  refine Xe M1 ?_ ?_
  ·refine sg (eq_true c1) ?_
   obtain ⟨inv2,mu2,hi2,hs2⟩:=hm
   replace H:=H.pm [0,1]
   refine Z7 (σ:=(List Int)×AV×Hp) (fun ⟨a5,x4,h4⟩=>⟨((((((List.replicate 68 AV.any).set 0 (.isl 4 (a0_.map Za.enc))).set 3 x1).set 4 x4).set 5 (aint a3)).set 10 (aint (a0_.length:Int))).set 11 (aint a3),h4⟩) (fun ⟨a5,x4,h4⟩=>inv2 a5∧AM.Own h0 h4 [⟨x1,false,1,a1.map Yd,some (3,0)⟩,⟨x4,false,1,a5.map Yd,some (3,0)⟩]) (fun ⟨a5,x4,h4⟩=>mu2 a5) ⟨a2,x2,h2⟩ (rtw) ⟨hi2,H⟩ ?_
   rintro ⟨a5,x4,h4⟩ ⟨hi2,H⟩
   have hm:=hs2 _ hi2
   dsimp only at hm H ⊢
   refine sg (ai (eq_true c1) (H.lenE 1 rfl Wua)) ?_
   refine gfk (fun c2=>?_) fun c2=>?_
   ·replace hm:=ifp hm c2
    obtain ⟨w2,hm⟩:=hm
    refine sg (ai (eq_true c1) (ai (eq_true c2) (ai (wrap_i64 _ w2) (H.lenE 1 rfl Wua)))) ?_
    obtain ⟨z1,v1,i1,hm⟩:=hm
    obtain ⟨b2,o1,rfl,qb,qc,qd,qe⟩:=H.row (k:=((a5.length:Int) - 1).toNat) (r:=Yd v1) 1 rfl (gmp i1)
    try rw [List.length_map] at qe
    have q1:=qb
    have q2:=qc
    have q3:=qd
    have q4:=eq_true qe
    rw [List.length_map] at H
    obtain ⟨w3,z2,v3,i3,w4,hm⟩:=hm
    have F1:=ai (eq_true c1) (ai (eq_true c2) (ai (wrap_i64 _ w2) (ai (eq_true z1) (ai (wrap_i64 _ w3) (ai (eq_true z2) (ai i3 (wrap_i64 _ w4)))))))
    refine sg (ai F1 (ai q1 (ai q2 (ai q3 (ai q4 (H.lenE 1 rfl Wua)))))) ?_
    refine fkc (fun c3=>?_) fun c3=>?_
    ·replace hm:=ifp hm c3
     obtain ⟨w5,w6,hm⟩:=hm
     refine sg (ai F1 (ai q1 (ai q2 (ai q3 (ai q4 (ai (eq_true c3) (ai (wrap_i64 _ w5) (H.lenE 1 rfl Wua)))))))) ?_
     refine H.slc 1 rfl Wua tab_3 rfl rfl (by simp only [Vy,push_cast,eq_true c1,eq_true c2,wrap_i64 _ w2,eq_true z1,q1,q2,q3,q4,wrap_i64 _ w3,eq_true z2,i3,wrap_i64 _ w4,eq_true c3,wrap_i64 _ w5]) w6.1 (by rw [List.length_map]; exact w6.2) (fun y1 vw1=>?_)
     refine sg (ai F1 (ai q1 (ai q2 (ai q3 (ai q4 (ai (eq_true c3) (wrap_i64 _ w5))))))) ?_
     replace H:=H.trimV 1 rfl vw1
     rw [← List.map_take] at H
     replace H:AM.Own h0 h4 [⟨x1,false,1,a1.map Yd,some (3,0)⟩,⟨y1,false,1,(a5.take (((a5.length:Int) - 1).toNat)).map Yd,some (3,0)⟩]:=H
     replace H:=H.pm [0,1]
     exact ⟨⟨a5.take (((a5.length:Int) - 1).toNat),y1,h4⟩,hm.2,⟨hm.1,H⟩,rtw⟩
    replace hm:=ifn hm c3
    refine sg (ai F1 (ai q1 (ai q2 (ai q3 (ai q4 (eq_false c3)))))) ?_
    replace H:=H.pm [0,1]
    subst hM1
    exact ⟨a5,(.osl b2 1 0 a5.length),h4,lkt,rfl,H,hm⟩
   replace hm:=ifn hm c2
   refine sg (ai (eq_true c1) (eq_false c2)) ?_
   replace H:=H.pm [0,1]
   subst hM1
   exact ⟨a5,x4,h4,lkt,rfl,H,hm⟩
  subst hM1
  rintro ⟨tm,h3⟩ ⟨a4,x3,_,hL,rfl,H,hm⟩
  dsimp only at hL H
  obtain ⟨D,rfl⟩:=hL.fill 0
  replace hm:=hk1 _ hm
  refine sg (eq_true c1) ?_
  obtain ⟨k2,hm,hk2⟩:=Yn hm
  obtain ⟨M2,hM2⟩:∃ M:AM.St→Prop,M = (fun s'=>∃ (a6:List Int) (a7:List Int) (x5:AV) (x6:AV) (h5:Hp),Like s'.tm (((((((List.replicate 68 none).set 0 (some (.isl 4 (a0_.map Za.enc)))).set 3 (some x5)).set 4 (some x6)).set 5 (some (aint a3))).set 10 (some (aint (a0_.length:Int)))).set 11 (some (aint a3)))∧s'.h = h5∧AM.Own h0 h5 [⟨x5,false,1,a6.map Yd,some (3,0)⟩,⟨x6,false,1,a7.map Yd,some (3,0)⟩]∧k2 (a6,a7)):=⟨_,rfl⟩
  refine Xe M2 ?_ ?_
  ·refine sg (ai (eq_true c1) (H.lenE 1 rfl Wua)) ?_
   refine fkc (fun c4=>?_) fun c4=>?_
   ·replace hm:=ifp hm c4
    obtain ⟨w7,hm⟩:=hm
    refine sg (ai (eq_true c1) (ai (eq_true c4) (ai (wrap_i64 _ w7) (H.lenE 1 rfl Wua)))) ?_
    obtain ⟨z3,v4,i4,hm⟩:=hm
    obtain ⟨b3,o2,rfl,qb,qc,qd,qe⟩:=H.row (k:=((a4.length:Int) - 1).toNat) (r:=Yd v4) 1 rfl (gmp i4)
    try rw [List.length_map] at qe
    have q5:=qb
    have q6:=qc
    have q7:=qd
    have q8:=eq_true qe
    rw [List.length_map] at H
    have F2:=ai (eq_true c1) (ai (eq_true c4) (ai (wrap_i64 _ w7) (eq_true z3)))
    refine sg (ai F2 (ai q5 (ai q6 (ai q7 q8)))) ?_
    obtain ⟨z4,v5,i5,hm⟩:=hm
    obtain ⟨b4,o3,rfl,qb,qc,qd,qe⟩:=H.row (k:=a3.toNat) (r:=Yd v5) 0 rfl (gmp i5)
    try rw [List.length_map] at qe
    have q9:=qb
    have q10:=qc
    have q11:=qd
    have q12:=eq_true qe
    rw [List.length_map] at H
    refine sg (ai F2 (ai q5 (ai q6 (ai q7 (ai q8 (ai (eq_true z4) (ai q9 (ai q10 (ai q11 q12))))))))) ?_
    have i6:=Z0a v4 i5
    refine H.stL 0 v4 rfl i5 rfl rfl rfl (Nat.le_of_ble_eq_true rfl) rfl (fun h6 H=>?_)
    refine sg (ai F2 (ai q5 (ai q6 (ai q7 (ai q8 (ai (eq_true z4) (ai q9 (ai q10 (ai q11 q12))))))))) ?_
    replace H:=H.pm [0,1]
    subst hM2
    exact ⟨a1.set a3.toNat v4,a4,(.osl b4 1 0 a1.length),(.osl b3 1 0 a4.length),h6,lkt,rfl,H,hm⟩
   replace hm:=ifn hm c4
   refine sg (ai (eq_true c1) (eq_false c4)) ?_
   replace H:=H.pm [0,1]
   subst hM2
   exact ⟨a1,a4,x1,x3,h3,lkt,rfl,H,hm⟩
  subst hM2
  rintro ⟨tm,h5⟩ ⟨a6,a7,x5,x6,_,hL,rfl,H,hm⟩
  dsimp only at hL H
  obtain ⟨D,rfl⟩:=hL.fill 0
  replace hm:=hk2 _ hm
  obtain ⟨z5,v6,i7,hm⟩:=hm
  refine sg (ai (eq_true c1) (ai (eq_true z5) i7)) ?_
  refine Zn (fun h=>strings_IndexByte.ok hm h) (fun r1 hm=>?_)
  refine sg (ai (eq_true c1) (ai (eq_true z5) i7)) ?_
  refine fkc (fun c5=>?_) fun c5=>?_
  ·replace hm:=ifp hm c5
   refine sg (ai (eq_true c1) (ai (eq_true z5) (ai i7 (eq_true c5)))) ?_
   refine H.newL (E:=Yd) ([a3]:List Int) rfl rfl (fun b5 h7 H=>?_)
   refine sg (ai (eq_true c1) (ai (eq_true z5) (ai i7 (ai (eq_true c5) (H.src (e:=3) 2 rfl))))) ?_
   obtain ⟨w8,hm⟩:=hm
   refine H.appL (E:=Yd) 1 ([a3]:List Int) rfl rfl rfl (by decide) (by decide) w8 (fun x7 h8 H=>?_)
   obtain ⟨w9,hm⟩:=hm
   have F3:=ai (eq_true c1) (ai (eq_true z5) (ai i7 (ai (eq_true c5) (wrap_i64 _ w9))))
   refine sg F3 ?_
   replace H:=H.pm [0,1]
   exact ⟨⟨(a6,a7++([a3]:List Int),a3+1),x5,x7,h8⟩,hm.2,⟨hm.1,H⟩,rtw⟩
  replace hm:=ifn hm c5
  obtain ⟨w10,hm⟩:=hm
  have F4:=ai (eq_true c1) (ai (eq_true z5) (ai i7 (ai (eq_false c5) (wrap_i64 _ w10))))
  refine sg F4 ?_
  replace H:=H.pm [0,1]
  exact ⟨⟨(a6,a7,a3+1),x5,x6,h5⟩,hm.2,⟨hm.1,H⟩,rtw⟩
 replace hm:=ifn hm c1
 refine sg (eq_false c1) ?_
 obtain ⟨h9,s1,H⟩:=H.freeze 0 rfl
 exact Zb (.inl rfl) a1 _ rfl s1 H.sub hm
abbrev n_chars_White:Nat:=117
noncomputable def Zdb:AC:=
 (.seq (.reg [oO 2 (.assign (.const (.bool false)))]) (.seq (.reg [oM 3 0,oO 4 (.binOp .eql 5 (oT 3) (oD 32) 5),oM 5 4,oG 6 5 false (.move (oT 0)),oG 7 5 false (.binOp .eql 5 (oT 6) (oD 10) 5),oO 8 (.pick (oT 5) (.const (.bool true)) (oT 7)),oA 2 8]) .ret))
theorem enter_chars_White:EN Zdb [(ResultVar.tmp 2)] 9 117:=acE Tryz.func117 (ann:=Yy)
def Wh.w (a0_:Int) (Q:Bool→Prop):Prop:=
 if a0_ = 32 then
  Q true
 else
  Q (decide (a0_ = 10))
theorem Wh.ok {a0_:Int} {Q:Bool→Prop} (hm:Wh.w a0_ Q) (h0:Hp):Zo Tryz.prog n_chars_White [(.val (.int .u8 a0_))] h0 (Back h0 (fun r=>(Zk r)) Q):=by
 refine enter_chars_White ?_
 unfold Wh.w at hm
 have H:=AM.Own.nil h0
 try simp -implicitDefEqProofs (disch:=omega) only [push_cast,seval,Zdb]
 refine gfk' (fun c1=>?_) fun c1=>?_
 ·replace hm:=ifp hm c1
  refine sg (eq_true c1) ?_
  exact Zb (.inl rfl) true _ rfl (Zf.refl _ _) H.sub hm
 replace hm:=ifn hm c1
 refine sg (eq_false c1) ?_
 exact Zb (.inl rfl) (decide (a0_ = 10)) _ rfl (Zf.refl _ _) H.sub hm
abbrev n_norm_said_blank:Nat:=152
noncomputable def Yua:AC:=
 (.seq (.reg [oO 1 (.box 189 (oT 0)),oO 2 (.assign (.const (.bool false)))]) (.seq (.reg [oF 3 189 1 0,oL 4 5 3,oO 5 (.binOp .eql 5 (oT 4) (oD 0) 5),oM 6 5,oG 7 6 false (.fieldAddr 189 (oT 1) 0),oG 8 6 false (.load 5 (oT 7)),oG 9 6 false (.binOp .eql 5 (oT 8) (oD 32) 5),oO 10 (.pick (oT 6) (.const (.bool true)) (oT 9)),oA 2 10]) .ret))
theorem V5a:EN Yua [(ResultVar.tmp 2)] 11 152:=acE Tryz.func152 (ann:=Yy)
def V2.w (a0_:Wsa) (Q:Bool→Prop):Prop:=
 if a0_.byte = 0 then
  Q true
 else
  Q (decide (a0_.byte = 32))
theorem V2.ok {a0_:Wsa} {Q:Bool→Prop} (hm:V2.w a0_ Q) (h0:Hp):Zo Tryz.prog n_norm_said_blank [(.agg (Wsa.enc a0_))] h0 (Back h0 (fun r=>(Zk r)) Q):=by
 refine V5a ?_
 unfold V2.w at hm
 have H:=AM.Own.nil h0
 try simp -implicitDefEqProofs (disch:=omega) only [push_cast,seval,Yua]
 refine H.newR (Wsa.enc a0_) rfl (fun b1 h1 H=>?_)
 refine sg (H.p 0 rfl) ?_
 refine gfk' (fun c1=>?_) fun c1=>?_
 ·replace hm:=ifp hm c1
  refine sg (ai (eq_true c1) (H.p 0 rfl)) ?_
  exact Zb (.inl rfl) true _ rfl (Zf.refl _ _) H.sub hm
 replace hm:=ifn hm c1
 refine sg (ai (eq_false c1) (H.p 0 rfl)) ?_
 exact Zb (.inl rfl) (decide (a0_.byte = 32)) _ rfl (Zf.refl _ _) H.sub hm
abbrev Jx:Nat:=153
noncomputable def W2:AC:=
 (.seq (.reg [oO 4 (.assign (.const (.bool false)))]) (.seq (.reg [oM 5 0,oN 6 5 9,oM 7 1,oN 8 7 9,oO 9 (.binOp .geq 3 (oT 6) (oT 8) 3),oM 10 9,oG 11 10 true (.move (oT 0)),oG 12 10 true (.move (oT 0)),oG 13 10 true (.call (.mk (.builtin .len) #[(oT 12)] #[9])),oG 14 10 true (.move (oT 1)),oG 15 10 true (.call (.mk (.builtin .len) #[(oT 14)] #[9])),oG 16 10 true (.binOp .sub 3 (oT 13) (oT 15) 3),oG 17 10 true (.slice 9 (oT 11) (some (oT 16)) none none),oG 18 10 true (.move (oT 1)),oG 19 10 true (.binOp .eql 9 (oT 17) (oT 18) 9),oO 20 (.pick (oT 10) (oT 19) (.const (.bool false))),oA 4 20]) .ret))
theorem Ky:EN W2 [(ResultVar.tmp 4)] 21 153:=acE Tryz.func153 (ann:=Yy)
def Z4.w (a0_:ByteArray) (a1_:ByteArray) (Q:Bool→Prop):Prop:=
 if (a1_.size:Int)≤(a0_.size:Int) then
  (I64 ((a0_.size:Int) - (a1_.size:Int))) ∧
  (0≤(a0_.size:Int) - (a1_.size:Int)) ∧
  (((a0_.size:Int) - (a1_.size:Int)).toNat≤a0_.size) ∧
  Q (decide (a0_.extract ((a0_.size:Int) - (a1_.size:Int)).toNat a0_.size = a1_))
 else
  Q false
theorem Z4.ok {a0_:ByteArray} {a1_:ByteArray} {Q:Bool→Prop} (hm:Z4.w a0_ a1_ Q) (h0:Hp):Zo Tryz.prog Jx [(astr a0_),(astr a1_)] h0 (Back h0 (fun r=>(Zk r)) Q):=by
 refine Ky ?_
 unfold Z4.w at hm
 have H:=AM.Own.nil h0
 try simp -implicitDefEqProofs (disch:=omega) only [push_cast,seval,W2]
 refine gfk (fun c1=>?_) fun c1=>?_
 ·replace hm:=ifp hm c1
  obtain ⟨w1,z1,w2,hm⟩:=hm
  have F1:=ai (eq_true c1) (ai (wrap_i64 _ w1) (ai (eq_true z1) (eq_true w2)))
  refine sg F1 ?_
  exact Zb (.inl rfl) (decide (a0_.extract ((a0_.size:Int) - (a1_.size:Int)).toNat a0_.size = a1_)) _ rfl (Zf.refl _ _) H.sub hm
 replace hm:=ifn hm c1
 refine sg (eq_false c1) ?_
 exact Zb (.inl rfl) false _ rfl (Zf.refl _ _) H.sub hm
abbrev Jl:Nat:=130
noncomputable def Wo:AC:=
 (.seq (.reg [oO 4 (.assign (.const (.string (ByteArray.mk #[]))))]) (.seq (.seq (.reg [oM 5 0,oM 6 1,oO 7 (oK 153 #[(oT 5),(oT 6)] #[9,9])]) (.cond (oT 7) (.seq (.reg [oM 8 0,oM 9 0,oN 10 9 9,oM 11 1,oN 12 11 9,oO 13 (.binOp .sub 3 (oT 10) (oT 12) 3),oO 14 (.slice 9 (oT 8) none (some (oT 13)) none),oA 4 14]) .ret) .skip)) (.seq (.reg [oM 15 0,oA 4 15]) .ret)))
theorem Ks:EN Wo [(ResultVar.tmp 4)] 16 130:=acE Tryz.func130 (ann:=Yy)
def Z2.w (a0_:ByteArray) (a1_:ByteArray) (Q:ByteArray→Prop):Prop:=
 Z4.w a0_ a1_ (fun r1=>
  if r1 = true then
   (I64 ((a0_.size:Int) - (a1_.size:Int))) ∧
   (0≤(a0_.size:Int) - (a1_.size:Int)) ∧
   (((a0_.size:Int) - (a1_.size:Int)).toNat≤a0_.size) ∧
   Q (a0_.extract 0 (((a0_.size:Int) - (a1_.size:Int)).toNat))
  else
   Q a0_)
theorem Z2.ok {a0_:ByteArray} {a1_:ByteArray} {Q:ByteArray→Prop} (hm:Z2.w a0_ a1_ Q) (h0:Hp):Zo Tryz.prog Jl [(astr a0_),(astr a1_)] h0 (Back h0 (fun r=>(astr r)) Q):=by
 refine Ks ?_
 unfold Z2.w at hm
 have H:=AM.Own.nil h0
 try simp -implicitDefEqProofs (disch:=omega) only [push_cast,seval,Wo]
 refine Zn (fun h=>Z4.ok hm h) (fun r1 hm=>?_)
 refine sg0 ?_
 rw [Zw]
 refine ⟨fun c1=>?_,fun c1=>?_⟩
 ·replace hm:=ifp hm c1
  obtain ⟨w1,z1,w2,hm⟩:=hm
  have F1:=ai c1 (ai (wrap_i64 _ w1) (ai (eq_true z1) (eq_true w2)))
  refine sg F1 ?_
  exact Zb (.inl rfl) (a0_.extract 0 (((a0_.size:Int) - (a1_.size:Int)).toNat)) _ rfl (Zf.refl _ _) H.sub hm
 replace hm:=ifn hm (by rw [c1]; exact Bool.false_ne_true)
 refine sg c1 ?_
 exact Zb (.inl rfl) a0_ _ rfl (Zf.refl _ _) H.sub hm
abbrev Jia:Nat:=90
noncomputable def Zja:AC:=
 (.seq (.reg [oO 4 (.assign (.const (.string (ByteArray.mk #[]))))]) (.seq (.reg [oM 5 0,oM 6 1,oO 7 (oK 130 #[(oT 5),(oT 6)] #[9,9]),oA 4 7]) .ret))
theorem Xha:EN Zja [(ResultVar.tmp 4)] 8 90:=acE Tryz.func90 (ann:=Yy)
def Z8.w (a0_:ByteArray) (a1_:ByteArray) (Q:ByteArray→Prop):Prop:=
 Z2.w a0_ a1_ (fun r1=>
  Q r1)
theorem Z8.ok {a0_:ByteArray} {a1_:ByteArray} {Q:ByteArray→Prop} (hm:Z8.w a0_ a1_ Q) (h0:Hp):Zo Tryz.prog Jia [(astr a0_),(astr a1_)] h0 (Back h0 (fun r=>(astr r)) Q):=by
 refine Xha ?_
 unfold Z8.w at hm
 have H:=AM.Own.nil h0
 try simp -implicitDefEqProofs (disch:=omega) only [push_cast,seval,Zja]
 refine Zn (fun h=>Z2.ok hm h) (fun r1 hm=>?_)
 refine sg0 ?_
 exact Zb (.inl rfl) r1 _ rfl (Zf.refl _ _) H.sub hm
abbrev Jy:Nat:=154
noncomputable def W3:AC:=
 (.seq (.reg [oO 4 (.assign (.const (.bool false)))]) (.seq (.reg [oM 5 0,oN 6 5 9,oM 7 1,oN 8 7 9,oO 9 (.binOp .geq 3 (oT 6) (oT 8) 3),oM 10 9,oG 11 10 true (.move (oT 0)),oG 12 10 true (.move (oT 1)),oG 13 10 true (.call (.mk (.builtin .len) #[(oT 12)] #[9])),oG 14 10 true (.slice 9 (oT 11) none (some (oT 13)) none),oG 15 10 true (.move (oT 1)),oG 16 10 true (.binOp .eql 9 (oT 14) (oT 15) 9),oO 17 (.pick (oT 10) (oT 16) (.const (.bool false))),oA 4 17]) .ret))
theorem Kz:EN W3 [(ResultVar.tmp 4)] 18 154:=acE Tryz.func154 (ann:=Yy)
def Yc.w (a0_:ByteArray) (a1_:ByteArray) (Q:Bool→Prop):Prop:=
 if (a1_.size:Int)≤(a0_.size:Int) then
  (a1_.size≤a0_.size) ∧
  Q (decide (a0_.extract 0 a1_.size = a1_))
 else
  Q false
theorem Yc.ok {a0_:ByteArray} {a1_:ByteArray} {Q:Bool→Prop} (hm:Yc.w a0_ a1_ Q) (h0:Hp):Zo Tryz.prog Jy [(astr a0_),(astr a1_)] h0 (Back h0 (fun r=>(Zk r)) Q):=by
 refine Kz ?_
 unfold Yc.w at hm
 have H:=AM.Own.nil h0
 try simp -implicitDefEqProofs (disch:=omega) only [push_cast,seval,W3]
 refine gfk (fun c1=>?_) fun c1=>?_
 ·replace hm:=ifp hm c1
  obtain ⟨w1,hm⟩:=hm
  refine sg (ai (eq_true c1) (eq_true w1)) ?_
  exact Zb (.inl rfl) (decide (a0_.extract 0 a1_.size = a1_)) _ rfl (Zf.refl _ _) H.sub hm
 replace hm:=ifn hm c1
 refine sg (eq_false c1) ?_
 exact Zb (.inl rfl) false _ rfl (Zf.refl _ _) H.sub hm
abbrev Jm:Nat:=131
noncomputable def Wp:AC:=
 (.seq (.reg [oO 4 (.assign (.const (.string (ByteArray.mk #[]))))]) (.seq (.seq (.reg [oM 5 0,oM 6 1,oO 7 (oK 154 #[(oT 5),(oT 6)] #[9,9])]) (.cond (oT 7) (.seq (.reg [oM 8 0,oM 9 1,oN 10 9 9,oO 11 (.slice 9 (oT 8) (some (oT 10)) none none),oA 4 11]) .ret) .skip)) (.seq (.reg [oM 12 0,oA 4 12]) .ret)))
theorem Kt:EN Wp [(ResultVar.tmp 4)] 13 131:=acE Tryz.func131 (ann:=Yy)
def Yb.w (a0_:ByteArray) (a1_:ByteArray) (Q:ByteArray→Prop):Prop:=
 Yc.w a0_ a1_ (fun r1=>
  if r1 = true then
   (a1_.size≤a0_.size) ∧
   Q (a0_.extract a1_.size a0_.size)
  else
   Q a0_)
theorem Yb.ok {a0_:ByteArray} {a1_:ByteArray} {Q:ByteArray→Prop} (hm:Yb.w a0_ a1_ Q) (h0:Hp):Zo Tryz.prog Jm [(astr a0_),(astr a1_)] h0 (Back h0 (fun r=>(astr r)) Q):=by
 refine Kt ?_
 unfold Yb.w at hm
 have H:=AM.Own.nil h0
 try simp -implicitDefEqProofs (disch:=omega) only [push_cast,seval,Wp]
 refine Zn (fun h=>Yc.ok hm h) (fun r1 hm=>?_)
 refine sg0 ?_
 rw [Zw]
 refine ⟨fun c1=>?_,fun c1=>?_⟩
 ·replace hm:=ifp hm c1
  obtain ⟨w1,hm⟩:=hm
  refine sg (ai c1 (eq_true w1)) ?_
  exact Zb (.inl rfl) (a0_.extract a1_.size a0_.size) _ rfl (Zf.refl _ _) H.sub hm
 replace hm:=ifn hm (by rw [c1]; exact Bool.false_ne_true)
 refine sg c1 ?_
 exact Zb (.inl rfl) a0_ _ rfl (Zf.refl _ _) H.sub hm
abbrev Jja:Nat:=91
noncomputable def Zka:AC:=
 (.seq (.reg [oO 4 (.assign (.const (.string (ByteArray.mk #[]))))]) (.seq (.reg [oM 5 0,oM 6 1,oO 7 (oK 131 #[(oT 5),(oT 6)] #[9,9]),oA 4 7]) .ret))
theorem Xia:EN Zka [(ResultVar.tmp 4)] 8 91:=acE Tryz.func91 (ann:=Yy)
def Yp.w (a0_:ByteArray) (a1_:ByteArray) (Q:ByteArray→Prop):Prop:=
 Yb.w a0_ a1_ (fun r1=>
  Q r1)
theorem Yp.ok {a0_:ByteArray} {a1_:ByteArray} {Q:ByteArray→Prop} (hm:Yp.w a0_ a1_ Q) (h0:Hp):Zo Tryz.prog Jja [(astr a0_),(astr a1_)] h0 (Back h0 (fun r=>(astr r)) Q):=by
 refine Xia ?_
 unfold Yp.w at hm
 have H:=AM.Own.nil h0
 try simp -implicitDefEqProofs (disch:=omega) only [push_cast,seval,Zka]
 refine Zn (fun h=>Yb.ok hm h) (fun r1 hm=>?_)
 refine sg0 ?_
 exact Zb (.inl rfl) r1 _ rfl (Zf.refl _ _) H.sub hm
abbrev n_chars_of:Nat:=142
def ann_chars_of:Nat→Ann
 | 5=>{ pure:=[],plan:=(.op 0 (.op 1 (.op 2 (.op 3 (.op 4 (.op 5 (.op 6 (.op 7 (.op 8 (.op 9 (.op 10 (.op 11 (.op 12 (.op 13 .done)))))))))))))),ghost:=false,post:=false }
 | _=>{}
noncomputable def ac_chars_of:AC:=
 (.seq (.reg [oO 2 (.alloc 135)]) (.seq (.reg [oO 3 (.alloc 135)]) (.seq (.seq (.reg [oM 5 0,oN 6 5 9,oO 7 (.move (oC 0))]) (.block 0 (.loop (.seq (.reg [oO 8 (.binOp .lss 3 (oT 7) (oT 6) 3)]) (.seq (.cond (oT 8) .skip (.exit 0)) (.seq (.block 1 (.seq (.reg [oM 9 7,oA 4 9]) (.draw [oM 10 0,oM 11 4,oO 12 (.index 9 (oT 10) (oT 11)),oO 13 (.binOp .shr 5 (oT 12) (.const (.int .u64 6)) 130),oI 14 135 3 13,oL 15 133 14,oM 16 0,oM 17 4,oO 18 (.index 9 (oT 16) (oT 17)),oO 19 (.binOp .and 5 (oT 18) (oD 63) 5),oO 20 (.binOp .shl 133 (.const (.int .u64 1)) (oT 19) 5),oO 21 (.binOp .or 133 (oT 15) (oT 20) 133),oI 22 135 3 13,oS (.store 133 (oT 22) (oT 21))] (.op 0 (.op 1 (.op 2 (.op 3 (.op 4 (.op 5 (.op 6 (.op 7 (.op 8 (.op 9 (.op 10 (.op 11 (.op 12 (.op 13 .done))))))))))))))))) (.reg [oO 23 (.binOp .add 3 (oT 7) (oC 1) 3),oM 7 23]))))))) (.seq (.reg [oL 24 135 3,oS (.store 135 (oT 2) (oT 24))]) .ret))))
theorem enter_chars_of:EN ac_chars_of [(ResultVar.cell 2 135)] 25 142:=acE Tryz.func142 (ann:=ann_chars_of)
def Wx.w (a0_:ByteArray) (Q:(List Int)→Prop):Prop:=
 X2 (σ:=(List Int)×Int) (fun ⟨a1,a2⟩ next1=>
  if a2 < (a0_.size:Int) then
   (0≤a2) ∧
   ∃ v1:UInt8,a0_[a2.toNat]? = some v1 ∧
   (0≤ishr .u8 (v1.toNat:Int) 6) ∧
   ((ishr .u8 (v1.toNat:Int) 6).toNat < 4) ∧
   ∃ v2:Int,a1[(ishr .u8 (v1.toNat:Int) 6).toNat]? = some v2 ∧
   (0≤iand .u8 (v1.toNat:Int) 63) ∧
   ((ishr .u8 (v1.toNat:Int) 6).toNat < 4) ∧
   ((ishr .u8 (v1.toNat:Int) 6).toNat < a1.length) ∧
   (I64 (a2+1)) ∧
   next1 (a1.set (ishr .u8 (v1.toNat:Int) 6).toNat (ior .u64 v2 (ishl .u64 1 (iand .u8 (v1.toNat:Int) 63))),a2+1)
  else
   (a1.length = 4) ∧
   (a1.length = 4) ∧
   (([0,0,0,0]:List Int).length = 4) ∧
   (a1.length = 4) ∧
   Q a1) (([0,0,0,0]:List Int),0)
theorem Wx.ok {a0_:ByteArray} {Q:(List Int)→Prop} (hm:Wx.w a0_ Q) (h0:Hp):Zo Tryz.prog n_chars_of [(astr a0_)] h0 (Back h0 (fun r=>(.agg (r.map (fun v=>(.val (.int .u64 v)))))) Q):=by
 refine enter_chars_of ?_
 unfold Wx.w at hm
 have H:=AM.Own.nil h0
 try simp -implicitDefEqProofs (disch:=omega) only [push_cast,seval,ac_chars_of]
 refine H.newR (([0,0,0,0]:List Int).map (fun v=>(.val (.int .u64 v)))) rfl (fun b1 h1 H=>?_)
 refine sg (H.p 0 rfl) ?_
 refine H.newR (([0,0,0,0]:List Int).map (fun v=>(.val (.int .u64 v)))) rfl (fun b2 h2 H=>?_)
 refine sg (ai (H.p 0 rfl) (H.p 1 rfl)) ?_
 obtain ⟨inv1,mu1,hi1,hs1⟩:=hm
 replace H:=H.pm [0,1]
 refine Z7 (σ:=((List Int)×Int)×Hp) (fun ⟨⟨a1,a2⟩,h3⟩=>⟨(((((List.replicate 25 AV.any).set 0 (astr a0_)).set 2 (.optr b1 4 0 0)).set 3 (.optr b2 4 0 0)).set 6 (aint (a0_.size:Int))).set 7 (aint a2),h3⟩) (fun ⟨⟨a1,a2⟩,h3⟩=>inv1 (a1,a2)∧AM.Own h0 h3 [⟨(.optr b1 4 0 0),true,4,[(([0,0,0,0]:List Int).map (fun v=>(.val (.int .u64 v))))],some (135,4)⟩,⟨(.optr b2 4 0 0),true,4,[(a1.map (fun v=>(.val (.int .u64 v))))],some (135,4)⟩]) (fun ⟨⟨a1,a2⟩,h3⟩=>mu1 (a1,a2)) ⟨(([0,0,0,0]:List Int),0),h2⟩ (rtw) ⟨hi1,H⟩ ?_
 rintro ⟨⟨a1,a2⟩,h3⟩ ⟨hi1,H⟩
 have hm:=hs1 _ hi1
 dsimp only at hm H ⊢
 refine sg (ai (H.p 0 rfl) (H.p 1 rfl)) ?_
 refine fkc (fun c1=>?_) fun c1=>?_
 ·replace hm:=ifp hm c1
  obtain ⟨z1,v1,i1,z2,z3,v2,i2,z4,z5,z6,hm⟩:=hm
  have F1:=ai (eq_true c1) (ai (eq_true z1) (ai i1 (ai (eq_true z2) (ai (eq_true z3) (ai i2 (ai (eq_true z4) (eq_true z5)))))))
  try simp -implicitDefEqProofs (disch:=omega) only [push_cast,seval,F1,Kca i2,Option.map_some,H.p 0 rfl,H.p 1 rfl]
  refine H.stP 1 ((a1.set (ishr .u8 (v1.toNat:Int) 6).toNat (ior .u64 v2 (ishl .u64 1 (iand .u8 (v1.toNat:Int) 63)))).map (fun v=>(.val (.int .u64 v)))) rfl rfl rfl rfl (by exact arrLen z6) (by exact arrSet (f:=(fun v=>(.val (.int .u64 v)))) z6) (fun h4 H=>?_)
  obtain ⟨w1,hm⟩:=hm
  try simp -implicitDefEqProofs (disch:=omega) only [push_cast,seval,F1,Kca i2,Option.map_some,wrap_i64 _ w1,H.p 0 rfl,H.p 1 rfl]
  replace H:=H.pm [0,1]
  exact ⟨⟨(a1.set (ishr .u8 (v1.toNat:Int) 6).toNat (ior .u64 v2 (ishl .u64 1 (iand .u8 (v1.toNat:Int) 63))),a2+1),h4⟩,hm.2,⟨hm.1,H⟩,rtw⟩
 replace hm:=ifn hm c1
 obtain ⟨z7,hm⟩:=hm
 have z8:=(Yoa (f:=(fun v=>(.val (.int .u64 v)))) z7)
 try simp -implicitDefEqProofs (disch:=omega) only [push_cast,seval,eq_false c1,List.take_of_length_le (Nat.le_of_eq z8),z8,Nat.le_refl,List.drop_zero,List.take_length,H.p 0 rfl,H.p 1 rfl]
 obtain ⟨z9,z10,hm⟩:=hm
 refine H.stP 0 (a1.map (fun v=>(.val (.int .u64 v)))) rfl rfl rfl (by exact (Yoa (f:=(fun v=>(.val (.int .u64 v)))) z9)) (by rw [(Yoa (f:=(fun v=>(.val (.int .u64 v)))) z10)]; exact Nat.le_refl _) (by exact arrAll (Yoa (f:=(fun v=>(.val (.int .u64 v)))) z10)) (fun h5 H=>?_)
 try simp -implicitDefEqProofs (disch:=omega) only [push_cast,seval,eq_false c1,List.take_of_length_le (Nat.le_of_eq z8),z8,Nat.le_refl,List.drop_zero,List.take_length,H.p 0 rfl,H.p 1 rfl]
 obtain ⟨z11,hm⟩:=hm
 have z12:=(Yoa (f:=(fun v=>(.val (.int .u64 v)))) z11)
 have e0:=H.p 0 rfl
 have e1:=H.p 1 rfl
 exact Zb (.inl rfl) a1 (.agg (a1.map (fun v=>(.val (.int .u64 v))))) (by simp -implicitDefEqProofs (disch:=omega) only [push_cast,seval,Wm,Yqa,Vpa,e0,e1,List.take_of_length_le (Nat.le_of_eq z12),z12,Nat.le_refl,List.drop_zero]) (Zf.refl _ _) H.sub hm
abbrev n_chars_Marks:Nat:=143
noncomputable def Zeb:AC:=
 (.seq (.reg [oO 0 (.assign (.const (.string (ByteArray.mk #[]))))]) (.seq (.reg [oO 0 (.assign (.const (.string (ByteArray.mk #[46,44,59,58,33,63,39,34,45,40,41,47]))))]) .ret))
theorem enter_chars_Marks:EN Zeb [(ResultVar.tmp 0)] 1 143:=acE Tryz.func143 (ann:=Yy)
def J7.w (Q:ByteArray→Prop):Prop:=
 Q (ByteArray.mk #[46,44,59,58,33,63,39,34,45,40,41,47])
theorem J7.ok {Q:ByteArray→Prop} (hm:J7.w Q) (h0:Hp):Zo Tryz.prog n_chars_Marks [] h0 (Back h0 (fun r=>(astr r)) Q):=by
 refine enter_chars_Marks ?_
 unfold J7.w at hm
 have H:=AM.Own.nil h0
 try simp -implicitDefEqProofs (disch:=omega) only [push_cast,seval,Zeb]
 exact Zb (.inl rfl) (ByteArray.mk #[46,44,59,58,33,63,39,34,45,40,41,47]) _ rfl (Zf.refl _ _) H.sub hm
abbrev n_chars_classes:Nat:=103
noncomputable def W2a:AC:=
 (.seq (.reg [oO 0 (.alloc 136)]) (.seq (.reg [oO 1 (.call (.mk (.value (.func 142)) #[(.const (.string (ByteArray.mk #[97,98,99,100,101,102,103,104,105,106,107,108,109,110,111,112,113,114,115,116,117,118,119,120,121,122])))] #[9])),oO 2 (.call (.mk (.value (.func 142)) #[(.const (.string (ByteArray.mk #[65,66,67,68,69,70,71,72,73,74,75,76,77,78,79,80,81,82,83,84,85,86,87,88,89,90])))] #[9])),oO 3 (.call (.mk (.value (.func 142)) #[(.const (.string (ByteArray.mk #[48,49,50,51,52,53,54,55,56,57])))] #[9])),oO 4 (oK 143 #[] #[]),oO 5 (oK 142 #[(oT 4)] #[9]),oO 6 (.call (.mk (.value (.func 142)) #[(.const (.string (ByteArray.mk #[32])))] #[9])),oO 7 (.call (.mk (.value (.func 142)) #[(.const (.string (ByteArray.mk #[10])))] #[9])),oO 8 (.build 136 #[(1,(oT 1)),(2,(oT 2)),(3,(oT 3)),(4,(oT 5)),(5,(oT 6)),(6,(oT 7))]),oS (.store 136 (oT 0) (oT 8))]) .ret))
theorem Z2b:EN W2a [(ResultVar.cell 0 136)] 9 103:=acE Tryz.func103 (ann:=Yy)
def Vl.w (Q:(List (List Int))→Prop):Prop:=
 Wx.w (ByteArray.mk #[97,98,99,100,101,102,103,104,105,106,107,108,109,110,111,112,113,114,115,116,117,118,119,120,121,122]) (fun r1=>
  Wx.w (ByteArray.mk #[65,66,67,68,69,70,71,72,73,74,75,76,77,78,79,80,81,82,83,84,85,86,87,88,89,90]) (fun r2=>
   Wx.w (ByteArray.mk #[48,49,50,51,52,53,54,55,56,57]) (fun r3=>
    J7.w  (fun r4=>
     Wx.w r4 (fun r5=>
      Wx.w (ByteArray.mk #[32]) (fun r6=>
       Wx.w (ByteArray.mk #[10]) (fun r7=>
        (r1.length = 4) ∧
        (r2.length = 4) ∧
        (r3.length = 4) ∧
        (r5.length = 4) ∧
        (r6.length = 4) ∧
        (r7.length = 4) ∧
        ((([([0,0,0,0]:List Int),r1,r2,r3,r5,r6,r7]:List (List Int)).length = 7∧∀ v∈([([0,0,0,0]:List Int),r1,r2,r3,r5,r6,r7]:List (List Int)),v.length = 4)) ∧
        ((([([0,0,0,0]:List Int),([0,0,0,0]:List Int),([0,0,0,0]:List Int),([0,0,0,0]:List Int),([0,0,0,0]:List Int),([0,0,0,0]:List Int),([0,0,0,0]:List Int)]:List (List Int)).length = 7∧∀ v∈([([0,0,0,0]:List Int),([0,0,0,0]:List Int),([0,0,0,0]:List Int),([0,0,0,0]:List Int),([0,0,0,0]:List Int),([0,0,0,0]:List Int),([0,0,0,0]:List Int)]:List (List Int)),v.length = 4)) ∧
        ((([([0,0,0,0]:List Int),r1,r2,r3,r5,r6,r7]:List (List Int)).length = 7∧∀ v∈([([0,0,0,0]:List Int),r1,r2,r3,r5,r6,r7]:List (List Int)),v.length = 4)) ∧
        Q ([([0,0,0,0]:List Int),r1,r2,r3,r5,r6,r7]:List (List Int)))))))))
theorem Vl.ok {Q:(List (List Int))→Prop} (hm:Vl.w Q) (h0:Hp):Zo Tryz.prog n_chars_classes [] h0 (Back h0 (fun r=>(.agg (Wda (fun v=>(v.map (fun v=>(.val (.int .u64 v))))) r))) Q):=by
 refine Z2b ?_
 unfold Vl.w at hm
 have H:=AM.Own.nil h0
 try simp -implicitDefEqProofs (disch:=omega) only [push_cast,seval,W2a]
 refine H.newR (Wda (fun v=>(v.map (fun v=>(.val (.int .u64 v))))) ([([0,0,0,0]:List Int),([0,0,0,0]:List Int),([0,0,0,0]:List Int),([0,0,0,0]:List Int),([0,0,0,0]:List Int),([0,0,0,0]:List Int),([0,0,0,0]:List Int)]:List (List Int))) rfl (fun b1 h1 H=>?_)
 refine sg (H.p 0 rfl) ?_
 refine Zn (fun h=>Wx.ok hm h) (fun r1 hm=>?_)
 refine sg (H.p 0 rfl) ?_
 refine Zn (fun h=>Wx.ok hm h) (fun r2 hm=>?_)
 refine sg (H.p 0 rfl) ?_
 refine Zn (fun h=>Wx.ok hm h) (fun r3 hm=>?_)
 refine sg (H.p 0 rfl) ?_
 refine Zn (fun h=>J7.ok hm h) (fun r4 hm=>?_)
 refine sg (H.p 0 rfl) ?_
 refine Zn (fun h=>Wx.ok hm h) (fun r5 hm=>?_)
 refine sg (H.p 0 rfl) ?_
 refine Zn (fun h=>Wx.ok hm h) (fun r6 hm=>?_)
 refine sg (H.p 0 rfl) ?_
 refine Zn (fun h=>Wx.ok hm h) (fun r7 hm=>?_)
 obtain ⟨z1,z2,z3,z4,z5,z6,hm⟩:=hm
 have w1:=build2 (g:=(fun v=>(v.map (fun v=>(.val (.int .u64 v)))))) (parts:=[(1,(.agg (r1.map (fun v=>(.val (.int .u64 v)))))),(2,(.agg (r2.map (fun v=>(.val (.int .u64 v)))))),(3,(.agg (r3.map (fun v=>(.val (.int .u64 v)))))),(4,(.agg (r5.map (fun v=>(.val (.int .u64 v)))))),(5,(.agg (r6.map (fun v=>(.val (.int .u64 v)))))),(6,(.agg (r7.map (fun v=>(.val (.int .u64 v))))))]) ([([0,0,0,0]:List Int),r1,r2,r3,r5,r6,r7]:List (List Int)) [(([0,0,0,0]:List Int).map (fun v=>(.val (.int .u64 v)))),(([0,0,0,0]:List Int).map (fun v=>(.val (.int .u64 v)))),(([0,0,0,0]:List Int).map (fun v=>(.val (.int .u64 v)))),(([0,0,0,0]:List Int).map (fun v=>(.val (.int .u64 v)))),(([0,0,0,0]:List Int).map (fun v=>(.val (.int .u64 v)))),(([0,0,0,0]:List Int).map (fun v=>(.val (.int .u64 v)))),(([0,0,0,0]:List Int).map (fun v=>(.val (.int .u64 v))))] tab_136 tab_135 rfl (by simp) (by simp [push_cast,z1,z2,z3,z4,z5,z6]) rfl
 refine sg (ai w1 (H.p 0 rfl)) ?_
 obtain ⟨z7,z8,hm⟩:=hm
 refine H.stP 0 (Wda (fun v=>(v.map (fun v=>(.val (.int .u64 v))))) ([([0,0,0,0]:List Int),r1,r2,r3,r5,r6,r7]:List (List Int))) rfl rfl rfl (by exact (Y4b (g:=(fun v=>(v.map (fun v=>(.val (.int .u64 v)))))) (m:=28) z7.1 (fun v hv=>by simpa using (z7.2 v hv)) rfl)) (by rw [(Y4b (g:=(fun v=>(v.map (fun v=>(.val (.int .u64 v)))))) (m:=28) z8.1 (fun v hv=>by simpa using (z8.2 v hv)) rfl)]; exact Nat.le_refl _) (by exact arrAll (Y4b (g:=(fun v=>(v.map (fun v=>(.val (.int .u64 v)))))) (m:=28) z8.1 (fun v hv=>by simpa using (z8.2 v hv)) rfl)) (fun h2 H=>?_)
 refine sg (ai w1 (H.p 0 rfl)) ?_
 obtain ⟨z9,hm⟩:=hm
 have z10:=(Y4b (g:=(fun v=>(v.map (fun v=>(.val (.int .u64 v)))))) (m:=28) z9.1 (fun v hv=>by simpa using (z9.2 v hv)) rfl)
 have e0:=H.p 0 rfl
 exact Zb (.inl rfl) ([([0,0,0,0]:List Int),r1,r2,r3,r5,r6,r7]:List (List Int)) (.agg (Wda (fun v=>(v.map (fun v=>(.val (.int .u64 v))))) ([([0,0,0,0]:List Int),r1,r2,r3,r5,r6,r7]:List (List Int)))) (by simp -implicitDefEqProofs (disch:=omega) only [push_cast,seval,Wm,Yqa,Vpa,e0,List.take_of_length_le (Nat.le_of_eq z10),z10,Nat.le_refl,List.drop_zero]) (Zf.refl _ _) H.sub hm
end Go.Proofs.YtpkhmfedaaoalaaGreatDoor
