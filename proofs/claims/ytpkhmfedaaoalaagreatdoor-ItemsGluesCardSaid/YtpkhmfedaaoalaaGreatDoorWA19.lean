/- ItemsGlues: a part of its proof (packed by a program). -/
import Derived.Test.YtpkhmfedaaoalaaGreatDoorAwk
import Derived.Test.YtpkhmfedaaoalaaGreatDoorWA1
import Derived.Test.YtpkhmfedaaoalaaGreatDoorWA2
import Derived.Test.YtpkhmfedaaoalaaGreatDoorWA15
import Derived.Test.YtpkhmfedaaoalaaGreatDoorWA16
set_option linter.all false
namespace Go.Proofs.YtpkhmfedaaoalaaGreatDoor
open Go Go.Proofs.YtpkhmfedaaoalaaGreatDoor.AM
set_option maxRecDepth 100000
set_option maxHeartbeats 4000000
abbrev n_styluslaw18_lettered:Nat:=15
noncomputable def ac_styluslaw18_lettered:AC:=
 (.seq (.reg [oO 3 (.box 41 (oT 1)),oO 4 (.assign (.const (.bool false)))]) (.seq (.reg [oF 5 41 3 0,oL 6 3 5,oO 7 (.binOp .eql 3 (oT 6) (oC 1) 3),oM 8 7,oG 9 8 true (.fieldAddr 41 (oT 3) 4),oG 10 8 true (.load 3 (oT 9)),oG 11 8 true (.binOp .geq 3 (oT 10) (oC 0) 3),oO 12 (.pick (oT 8) (oT 11) (.const (.bool false))),oM 13 12,oG 14 13 true (.fieldAddr 41 (oT 3) 4),oG 15 13 true (.load 3 (oT 14)),oG 16 13 true (.move (oT 0)),oG 17 13 true (.call (.mk (.builtin .len) #[(oT 16)] #[22])),oG 18 13 true (.binOp .lss 3 (oT 15) (oT 17) 3),oO 19 (.pick (oT 13) (oT 18) (.const (.bool false))),oM 20 19,oG 21 20 true (.move (oT 0)),oG 22 20 true (.fieldAddr 41 (oT 3) 4),oG 23 20 true (.load 3 (oT 22)),oG 24 20 true (.indexAddr 22 (oT 21) (oT 23)),oG 25 20 true (.fieldAddr 43 (oT 24) 1),oG 26 20 true (.load 5 (oT 25)),oG 27 20 true (oK 33 #[(oT 26)] #[5]),oO 28 (.pick (oT 20) (oT 27) (.const (.bool false))),oA 4 28]) .ret))
theorem enter_styluslaw18_lettered:EN ac_styluslaw18_lettered [(ResultVar.tmp 4)] 29 15:=acE Tryz.func15 (ann:=Yy)
def styluslaw18_lettered.w (a0_:List Ze) (a1_:Zh) (Q:Bool→Prop):Prop:=
 if a1_.Kind = 1 then
  if 0≤a1_.Tok then
   if a1_.Tok < (a0_.length:Int) then
    (0≤a1_.Tok) ∧
    ∃ v1:Ze,a0_[a1_.Tok.toNat]? = some v1 ∧
    Wy.w v1.Ch (fun r1=>
     Q r1)
   else
    Q false
  else
   Q false
 else
  Q false
theorem styluslaw18_lettered.ok {a0_:List Ze} {a1_:Zh} {Q:Bool→Prop} (hm:styluslaw18_lettered.w a0_ a1_ Q) (h0:Hp):Zo Tryz.prog n_styluslaw18_lettered [(.isl 3 (a0_.map Ze.enc)),(.agg (Zh.enc a1_))] h0 (Back h0 (fun r=>(Zk r)) Q):=by
 refine enter_styluslaw18_lettered ?_
 unfold styluslaw18_lettered.w at hm
 have H:=AM.Own.nil h0
 try simp -implicitDefEqProofs (disch:=omega) only [push_cast,seval,ac_styluslaw18_lettered]
 refine H.newR (Zh.enc a1_) rfl (fun b1 h1 H=>?_)
 refine sg (H.p 0 rfl) ?_
 refine gfk (fun c1=>?_) fun c1=>?_
 ·replace hm:=ifp hm c1
  refine sg (ai (eq_true c1) (H.p 0 rfl)) ?_
  refine gfk (fun c2=>?_) fun c2=>?_
  ·replace hm:=ifp hm c2
   refine sg (ai (eq_true c1) (ai (eq_true c2) (H.p 0 rfl))) ?_
   refine gfk (fun c3=>?_) fun c3=>?_
   ·replace hm:=ifp hm c3
    obtain ⟨z1,v1,i1,hm⟩:=hm
    have F1:=ai (eq_true c1) (ai (eq_true c2) (ai (eq_true c3) (ai (eq_true z1) i1)))
    refine sg (ai F1 (H.p 0 rfl)) ?_
    refine Zn (fun h=>Wy.ok hm h) (fun r1 hm=>?_)
    refine sg (ai F1 (H.p 0 rfl)) ?_
    exact Zb (.inl rfl) r1 _ rfl (Zf.refl _ _) H.sub hm
   replace hm:=ifn hm c3
   refine sg (ai (eq_true c1) (ai (eq_true c2) (ai (eq_false c3) (H.p 0 rfl)))) ?_
   exact Zb (.inl rfl) false _ rfl (Zf.refl _ _) H.sub hm
  replace hm:=ifn hm c2
  refine sg (ai (eq_true c1) (ai (eq_false c2) (H.p 0 rfl))) ?_
  exact Zb (.inl rfl) false _ rfl (Zf.refl _ _) H.sub hm
 replace hm:=ifn hm c1
 refine sg (ai (eq_false c1) (H.p 0 rfl)) ?_
 exact Zb (.inl rfl) false _ rfl (Zf.refl _ _) H.sub hm
abbrev n_styluslaw18_boxes:Nat:=16
noncomputable def ac_styluslaw18_boxes_c1:AC:=
 (.seq (.reg [oM 11 0,oM 12 4,oI 13 33 11 12,oF 14 41 13 0,oL 15 3 14,oO 16 (.binOp .eql 3 (oT 15) (oC 1) 3),oM 17 16,oG 18 17 false (.move (oT 0)),oG 19 17 false (.move (oT 4)),oG 20 17 false (.indexAddr 33 (oT 18) (oT 19)),oG 21 17 false (.fieldAddr 41 (oT 20) 0),oG 22 17 false (.load 3 (oT 21)),oG 23 17 false (.binOp .eql 3 (oT 22) (oC 2) 3),oO 24 (.pick (oT 17) (.const (.bool true)) (oT 23))]) (.cond (oT 24) (.reg [oM 25 3,oO 26 (.binOp .add 3 (oT 25) (oC 1) 3),oA 3 26]) .skip))
noncomputable def ac_styluslaw18_boxes_c2:AC:=
 (.seq (.block 1 ac_styluslaw18_boxes_c1) (.reg [oM 9 4,oO 10 (.binOp .add 3 (oT 9) (oC 1) 3),oA 4 10]))
noncomputable def ac_styluslaw18_boxes:AC:=
 (.seq (.reg [oO 2 (.assign (oC 0))]) (.seq (.reg [oO 3 (.assign (oC 0))]) (.seq (.seq (.reg [oO 4 (.assign (oC 0))]) (.block 0 (.loop (.seq (.seq (.reg [oM 5 4,oM 6 0,oN 7 6 33,oO 8 (.binOp .lss 3 (oT 5) (oT 7) 3)]) (.cond (oT 8) .skip (.exit 0))) ac_styluslaw18_boxes_c2)))) (.seq (.reg [oM 27 3,oA 2 27]) .ret))))
theorem enter_styluslaw18_boxes:EN ac_styluslaw18_boxes [(ResultVar.tmp 2)] 28 16:=acE Tryz.func16 (ann:=Yy)
def styluslaw18_boxes.w (a0_:List Zh) (Q:Int→Prop):Prop:=
 X2 (σ:=Int×Int) (fun ⟨a1,a2⟩ next1=>
  if a2 < (a0_.length:Int) then
   wcut (α:=Int) (fun k1=>
    wcut (α:=Bool) (fun k2=>
     (0≤a2) ∧
     ∃ v1:Zh,a0_[a2.toNat]? = some v1 ∧
     if v1.Kind = 1 then
      k2 true
     else
      k2 (decide (v1.Kind = 2))) (fun a4=>
     if a4 = true then
      (I64 (a1+1)) ∧
      k1 (a1+1)
     else
      k1 a1)) (fun a3=>
    (I64 (a2+1)) ∧
    next1 (a3,a2+1))
  else
   Q a1) (0,0)
theorem styluslaw18_boxes.ok {a0_:List Zh} {Q:Int→Prop} (hm:styluslaw18_boxes.w a0_ Q) (h0:Hp):Zo Tryz.prog n_styluslaw18_boxes [(.isl 5 (a0_.map Zh.enc))] h0 (Back h0 (fun r=>(aint r)) Q):=by
 refine enter_styluslaw18_boxes ?_
 unfold styluslaw18_boxes.w at hm
 have H:=AM.Own.nil h0
 try simp -implicitDefEqProofs (disch:=omega) only [push_cast,seval,ac_styluslaw18_boxes]
 obtain ⟨inv1,mu1,hi1,hs1⟩:=hm
 replace H:=H.pm []
 refine Z7 (σ:=(Int×Int)×Hp) (fun ⟨⟨a1,a2⟩,h1⟩=>⟨(((List.replicate 28 AV.any).set 0 (.isl 5 (a0_.map Zh.enc))).set 3 (aint a1)).set 4 (aint a2),h1⟩) (fun ⟨⟨a1,a2⟩,h1⟩=>inv1 (a1,a2)∧AM.Own h0 h1 []) (fun ⟨⟨a1,a2⟩,h1⟩=>mu1 (a1,a2)) ⟨(0,0),h0⟩ (rtw) ⟨hi1,H⟩ ?_
 rintro ⟨⟨a1,a2⟩,h1⟩ ⟨hi1,H⟩
 have hm:=hs1 _ hi1
 dsimp only at hm H ⊢
 refine sg0 ?_
 refine fkc (fun c1=>?_) fun c1=>?_
 ·replace hm:=ifp hm c1
  refine sg (eq_true c1) ?_
  obtain ⟨k1,hm,hk1⟩:=Yn hm
  obtain ⟨M1,hM1⟩:∃ M:AM.St→Prop,M = (fun s'=>∃ (a3:Int) (h2:Hp),Like s'.tm ((((List.replicate 28 none).set 0 (some (.isl 5 (a0_.map Zh.enc)))).set 3 (some (aint a3))).set 4 (some (aint a2)))∧s'.h = h2∧AM.Own h0 h2 []∧k1 a3):=⟨_,rfl⟩
  refine Xe M1 ?_ ?_
  ·refine sg (eq_true c1) ?_
   obtain ⟨k2,hm,hk2⟩:=Yn hm
   obtain ⟨M2,hM2⟩:∃ M:AM.St→Prop,M = (fun s'=>∃ (a4:Bool) (h3:Hp),Like s'.tm (((((List.replicate 28 none).set 0 (some (.isl 5 (a0_.map Zh.enc)))).set 3 (some (aint a1))).set 4 (some (aint a2))).set 24 (some (Zk a4)))∧s'.h = h3∧AM.Own h0 h3 []∧k2 a4):=⟨_,rfl⟩
   refine Xe M2 ?_ ?_
   ·obtain ⟨z1,v1,i1,hm⟩:=hm
    refine sg (ai (eq_true c1) (ai (eq_true z1) i1)) ?_
    refine gfk' (fun c2=>?_) fun c2=>?_
    ·replace hm:=ifp hm c2
     refine sg (ai (eq_true c1) (ai (eq_true z1) (ai i1 (eq_true c2)))) ?_
     replace H:=H.pm []
     subst hM2
     exact ⟨true,h1,lkt,rfl,H,hm⟩
    replace hm:=ifn hm c2
    refine sg (ai (eq_true c1) (ai (eq_true z1) (ai i1 (eq_false c2)))) ?_
    replace H:=H.pm []
    subst hM2
    exact ⟨decide (v1.Kind = 2),h1,lkt,rfl,H,hm⟩
   subst hM2
   rintro ⟨tm,h3⟩ ⟨a4,_,hL,rfl,H,hm⟩
   dsimp only at hL H
   obtain ⟨D,rfl⟩:=hL.fill 0
   replace hm:=hk2 _ hm
   refine sg (eq_true c1) ?_
   rw [Zw]
   refine ⟨fun c3=>?_,fun c3=>?_⟩
   ·replace hm:=ifp hm c3
    obtain ⟨w1,hm⟩:=hm
    refine sg (ai (eq_true c1) (ai c3 (wrap_i64 _ w1))) ?_
    replace H:=H.pm []
    subst hM1
    exact ⟨a1+1,h3,lkt,rfl,H,hm⟩
   replace hm:=ifn hm (by rw [c3]; exact Bool.false_ne_true)
   refine sg (ai (eq_true c1) c3) ?_
   replace H:=H.pm []
   subst hM1
   exact ⟨a1,h3,lkt,rfl,H,hm⟩
  subst hM1
  rintro ⟨tm,h2⟩ ⟨a3,_,hL,rfl,H,hm⟩
  dsimp only at hL H
  obtain ⟨D,rfl⟩:=hL.fill 0
  replace hm:=hk1 _ hm
  obtain ⟨w2,hm⟩:=hm
  refine sg (ai (eq_true c1) (wrap_i64 _ w2)) ?_
  replace H:=H.pm []
  exact ⟨⟨(a3,a2+1),h2⟩,hm.2,⟨hm.1,H⟩,rtw⟩
 replace hm:=ifn hm c1
 refine sg (eq_false c1) ?_
 exact Zb (.inl rfl) a1 _ rfl (Zf.refl _ _) H.sub hm
end Go.Proofs.YtpkhmfedaaoalaaGreatDoor
namespace Go.Proofs.YtpkhmfedaaoalaaGreatDoor
open Go Go.Proofs.YtpkhmfedaaoalaaGreatDoor.AM
set_option maxRecDepth 100000
set_option maxHeartbeats 4000000
abbrev n_styluslaw18_ItemsGlues:Nat:=5
def ann_styluslaw18_ItemsGlues:Nat→Ann
 | 9=>{ pure:=[6],plan:=(.op 0 (.op 1 (.op 2 (.op 3 (.op 4 (.op 5 (.op 6 (.op 7 (.op 8 (.op 9 (.op 10 (.op 11 .done)))))))))))),ghost:=false,post:=false }
 | 20=>{ pure:=[16,26],plan:=(.op 0 (.op 1 (.op 2 (.op 3 (.op 4 (.op 5 (.op 6 (.op 7 (.op 8 (.op 9 (.op 10 (.op 11 (.op 12 (.op 13 (.op 14 (.op 15 (.op 16 (.op 17 (.op 18 (.op 19 (.op 20 (.op 21 (.op 22 (.op 23 (.op 24 (.op 25 (.op 26 (.op 27 (.op 28 (.op 29 (.op 30 (.op 31 (.op 32 (.op 33 (.op 34 (.op 35 (.op 36 (.op 37 (.op 38 (.op 39 (.op 40 (.op 41 (.op 42 (.op 43 (.op 44 (.op 45 (.op 46 (.op 47 (.op 48 (.op 49 (.op 50 (.op 51 (.op 52 (.op 53 (.op 54 (.op 55 (.op 56 (.op 57 .done)))))))))))))))))))))))))))))))))))))))))))))))))))))))))),ghost:=false,post:=false }
 | _=>{}
noncomputable def ac_styluslaw18_ItemsGlues_c1:AC:=
 (.seq (.seq (.reg [oF 54 41 12 0,oL 55 3 54]) (.block 4 (.seq (.reg [oO 57 (.binOp .eql 3 (oT 55) (oC 4) 3),oA 56 57]) (.cond (oT 56) (.exit 3) (.seq (.reg [oO 59 (.binOp .eql 3 (oT 55) (oC 3) 3),oA 58 59]) (.cond (oT 58) (.seq (.seq (.draw [oM 60 11,oO 61 (.binOp .eql 3 (oT 60) (oC 0) 3),oM 62 61,oG 63 62 false (.move (oT 11)),oG 64 62 false (.move (oT 8)),oG 65 62 false (.call (.mk (.builtin .len) #[(oT 64)] #[33])),oG 66 62 false (.binOp .sub 3 (oT 65) (oC 1) 3),oG 67 62 false (.binOp .eql 3 (oT 63) (oT 66) 3),oO 68 (.pick (oT 62) (.const (.bool true)) (oT 67)),oM 69 68,oG 70 69 false (.move (oT 0)),oG 71 69 false (.move (oT 8)),oG 72 69 false (.move (oT 11)),oG 73 69 false (.binOp .sub 3 (oT 72) (oC 1) 3),oG 74 69 false (.indexAddr 33 (oT 71) (oT 73)),oG 75 69 false (.load 41 (oT 74)),⟨some 76,(oK 15 #[(oT 70),(oT 75)] #[22,41]),(some (some 69,false)),true⟩,oG 77 69 false (.unOp .not 4 (oT 76)),oO 78 (.pick (oT 69) (.const (.bool true)) (oT 77)),oM 79 78,oG 80 79 false (.move (oT 0)),oG 81 79 false (.move (oT 8)),oG 82 79 false (.move (oT 11)),oG 83 79 false (.binOp .add 3 (oT 82) (oC 1) 3),oG 84 79 false (.indexAddr 33 (oT 81) (oT 83)),oG 85 79 false (.load 41 (oT 84)),⟨some 86,(oK 15 #[(oT 80),(oT 85)] #[22,41]),(some (some 79,false)),true⟩,oG 87 79 false (.unOp .not 4 (oT 86)),oO 88 (.pick (oT 79) (.const (.bool true)) (oT 87)),oM 89 88,oG 90 89 false (.move (oT 8)),oG 91 89 false (.move (oT 11)),oG 92 89 false (.binOp .add 3 (oT 91) (oC 1) 3),oG 93 89 false (.indexAddr 33 (oT 90) (oT 92)),oG 94 89 false (.fieldAddr 41 (oT 93) 4),oG 95 89 false (.load 3 (oT 94)),oG 96 89 false (.fieldAddr 41 (oT 12) 4),oG 97 89 false (.load 3 (oT 96)),oG 98 89 false (.binOp .neq 3 (oT 95) (oT 97) 3),oO 99 (.pick (oT 89) (.const (.bool true)) (oT 98)),oM 100 99,oG 101 100 false (.fieldAddr 41 (oT 12) 1),oG 102 100 false (.load 3 (oT 101)),oG 103 100 false (.fieldAddr 26 (oT 3) 0),oG 104 100 false (.indexAddr 23 (oT 103) (oC 45)),oG 105 100 false (.load 3 (oT 104)),oG 106 100 false (.binOp .neq 3 (oT 102) (oT 105) 3),oO 107 (.pick (oT 100) (.const (.bool true)) (oT 106)),oM 108 107,oG 109 108 false (.fieldAddr 41 (oT 12) 2),oG 110 108 false (.load 3 (oT 109)),oG 111 108 false (.binOp .neq 3 (oT 110) (oC 0) 3),oO 112 (.pick (oT 108) (.const (.bool true)) (oT 111)),oM 113 112,oG 114 113 false (.fieldAddr 41 (oT 12) 3),oG 115 113 false (.load 3 (oT 114)),oG 116 113 false (.binOp .neq 3 (oT 115) (oC 0) 3),oO 117 (.pick (oT 113) (.const (.bool true)) (oT 116))] (.op 0 (.op 1 (.op 2 (.op 3 (.op 4 (.op 5 (.op 6 (.op 7 (.op 8 (.op 9 (.op 10 (.op 11 (.op 12 (.op 13 (.op 14 (.op 15 (.op 16 (.op 17 (.op 18 (.op 19 (.op 20 (.op 21 (.op 22 (.op 23 (.op 24 (.op 25 (.op 26 (.op 27 (.op 28 (.op 29 (.op 30 (.op 31 (.op 32 (.op 33 (.op 34 (.op 35 (.op 36 (.op 37 (.op 38 (.op 39 (.op 40 (.op 41 (.op 42 (.op 43 (.op 44 (.op 45 (.op 46 (.op 47 (.op 48 (.op 49 (.op 50 (.op 51 (.op 52 (.op 53 (.op 54 (.op 55 (.op 56 (.op 57 .done))))))))))))))))))))))))))))))))))))))))))))))))))))))))))) (.cond (oT 117) (.seq (.reg [oO 4 (.assign (.const (.bool false)))]) .ret) .skip)) (.exit 3)) (.seq (.reg [oO 119 (.binOp .eql 3 (oT 55) (oC 2) 3),oA 118 119]) (.cond (oT 118) (.seq (.reg [oM 120 10,oO 121 (.binOp .eql 3 (oT 120) (oC 2) 3),oM 122 121,oG 123 122 false (.fieldAddr 41 (oT 12) 2),oG 124 122 false (.load 3 (oT 123)),oG 125 122 false (.fieldAddr 26 (oT 3) 1),oG 126 122 false (.load 3 (oT 125)),oG 127 122 false (.binOp .neq 3 (oT 124) (oT 126) 3),oO 128 (.pick (oT 122) (.const (.bool true)) (oT 127)),oM 129 128,oG 130 129 false (.fieldAddr 41 (oT 12) 3),oG 131 129 false (.load 3 (oT 130)),oG 132 129 false (.fieldAddr 26 (oT 3) 2),oG 133 129 false (.load 3 (oT 132)),oG 134 129 false (.binOp .neq 3 (oT 131) (oT 133) 3),oO 135 (.pick (oT 129) (.const (.bool true)) (oT 134))]) (.cond (oT 135) (.seq (.reg [oO 4 (.assign (.const (.bool false)))]) .ret) .skip)) .skip)))))))) (.reg [oF 136 41 12 0,oL 137 3 136,oA 10 137]))
noncomputable def ac_styluslaw18_ItemsGlues_c2:AC:=
 (.seq (.block 3 (.seq (.reg [oM 50 8,oM 51 11,oI 52 33 50 51,oL 53 41 52,oO 12 (.alloc 41),oS (.store 41 (oT 12) (oT 53))]) ac_styluslaw18_ItemsGlues_c1)) (.reg [oM 48 11,oO 49 (.binOp .add 3 (oT 48) (oC 1) 3),oA 11 49]))
noncomputable def ac_styluslaw18_ItemsGlues_c3:AC:=
 (.seq (.block 1 (.seq (.draw [oM 32 0,oL 33 26 3,oM 34 5,oM 35 7,oI 36 29 34 35,oL 37 3 36,⟨some 38,(oK 10 #[(oT 32),(oT 33),(oT 37)] #[22,26,3]),none,true⟩,oM 31 38,oO 39 (.extract (oT 31) 0),oO 40 (.extract (oT 31) 1),oA 8 39,oA 9 40] (.op 0 (.op 1 (.op 2 (.op 3 (.op 4 (.op 5 (.op 6 (.op 7 (.op 8 (.op 9 (.op 10 (.op 11 .done))))))))))))) (.seq (.seq (.reg [oM 41 9,oO 42 (.binOp .neq 30 (oT 41) (oC 0) 30)]) (.cond (oT 42) (.seq (.reg [oO 43 (oK 7 #[] #[]),oA 4 43]) .ret) .skip)) (.seq (.reg [oO 10 (.assign (oC 2))]) (.seq (.seq (.reg [oO 11 (.assign (oC 0))]) (.block 2 (.loop (.seq (.seq (.reg [oM 44 11,oM 45 8,oN 46 45 33,oO 47 (.binOp .lss 3 (oT 44) (oT 46) 3)]) (.cond (oT 47) .skip (.exit 2))) ac_styluslaw18_ItemsGlues_c2)))) (.seq (.reg [oM 138 10,oO 139 (.binOp .eql 3 (oT 138) (oC 2) 3),oM 140 139,oG 141 140 true (.move (oT 8)),oG 142 140 true (oK 16 #[(oT 141)] #[33]),oG 143 140 true (.binOp .gtr 3 (oT 142) (oC 0) 3),oO 144 (.pick (oT 140) (oT 143) (.const (.bool false)))]) (.cond (oT 144) (.seq (.reg [oO 4 (.assign (.const (.bool false)))]) .ret) .skip))))))) (.reg [oM 29 7,oO 30 (.binOp .add 3 (oT 29) (oC 1) 3),oA 7 30]))
noncomputable def ac_styluslaw18_ItemsGlues:AC:=
 (.seq (.reg [oO 3 (.box 26 (oT 1)),oO 4 (.assign (.const (.bool false)))]) (.seq (.seq (.reg [oM 13 0,oL 14 26 3,oO 15 (oK 6 #[(oT 13),(oT 14)] #[22,26])]) (.cond (oT 15) (.seq (.reg [oO 16 (oK 7 #[] #[]),oA 4 16]) .ret) .skip)) (.seq (.reg [oM 18 0,oO 19 (oK 8 #[(oT 18)] #[22]),oM 17 19,oO 20 (.extract (oT 17) 0),oO 21 (.extract (oT 17) 1),oA 5 20,oA 6 21]) (.seq (.seq (.reg [oM 22 6,oO 23 (.binOp .neq 30 (oT 22) (oC 0) 30)]) (.cond (oT 23) (.seq (.reg [oO 24 (oK 7 #[] #[]),oA 4 24]) .ret) .skip)) (.seq (.seq (.reg [oO 7 (.assign (oC 0))]) (.block 0 (.loop (.seq (.seq (.reg [oM 25 7,oM 26 5,oN 27 26 29,oO 28 (.binOp .lss 3 (oT 25) (oT 27) 3)]) (.cond (oT 28) .skip (.exit 0))) ac_styluslaw18_ItemsGlues_c3)))) (.seq (.reg [oO 145 (oK 7 #[] #[]),oA 4 145]) .ret))))))
theorem enter_styluslaw18_ItemsGlues:EN ac_styluslaw18_ItemsGlues [(ResultVar.tmp 4)] 146 5:=acE Tryz.func5 (ann:=ann_styluslaw18_ItemsGlues)
def styluslaw18_ItemsGlues.w (a0_:List Ze) (a1_:Zg) (Q:Bool→Prop):Prop:=
 (a1_.Widths.length = 128) ∧
 X3.w a0_ a1_ (fun r1=>
  if r1 = true then
   Yh.w  (fun r2=>
    Q r2)
  else
   K7.w a0_ (fun r3=>
    if r3.2 = 0 then
     X2 (σ:=Int) (fun a1 next1=>
      if a1 < (r3.1.length:Int) then
       wcut (α:=Unit) (fun k1=>
        (0≤a1) ∧
        ∃ v1:Int,r3.1[a1.toNat]? = some v1 ∧
        ∃ r5:(List Zh)×Int,Jn.w a0_ a1_ v1 (fun r'=>r' = r5) ∧
        if r5.2 = 0 then
         X2 (σ:=Int×Int) (fun ⟨a2,a3⟩ next2=>
          if a3 < (r5.1.length:Int) then
           wcut (α:=Int) (fun k2=>
            (0≤a3) ∧
            ∃ v2:Zh,r5.1[a3.toNat]? = some v2 ∧
            wcut (α:=Unit) (fun k3=>
             if v2.Kind = 4 then
              k2 a2
             else
              if v2.Kind = 3 then
               if a3 = 0 then
                Q false
               else
                (I64 ((r5.1.length:Int) - 1)) ∧
                if a3 = (r5.1.length:Int) - 1 then
                 Q false
                else
                 (I64 (a3 - 1)) ∧
                 (0≤a3 - 1) ∧
                 ∃ v3:Zh,r5.1[(a3 - 1).toNat]? = some v3 ∧
                 ∃ r7:Bool,styluslaw18_lettered.w a0_ v3 (fun r'=>r' = r7) ∧
                 if (!r7) = true then
                  Q false
                 else
                  (I64 (a3+1)) ∧
                  (0≤a3+1) ∧
                  ∃ v4:Zh,r5.1[(a3+1).toNat]? = some v4 ∧
                  ∃ r8:Bool,styluslaw18_lettered.w a0_ v4 (fun r'=>r' = r8) ∧
                  if (!r8) = true then
                   Q false
                  else
                   (I64 (a3+1)) ∧
                   if v4.Tok = v2.Tok then
                    ∃ v6:Int,a1_.Widths[45]? = some v6 ∧
                    if v2.Width = v6 then
                     if v2.Stretch = 0 then
                      if v2.Shrink = 0 then
                       k2 a2
                      else
                       Q false
                     else
                      Q false
                    else
                     Q false
                   else
                    Q false
              else
               if v2.Kind = 2 then
                if a2 = 2 then
                 Q false
                else
                 if v2.Stretch = a1_.Stretch then
                  if v2.Shrink = a1_.Shrink then
                   k3 ()
                  else
                   Q false
                 else
                  Q false
               else
                k3 ()) (fun _=>
             k2 v2.Kind)) (fun a4=>
            (I64 (a3+1)) ∧
            next2 (a4,a3+1))
          else
           if a2 = 2 then
            styluslaw18_boxes.w r5.1 (fun r9=>
             if 0 < r9 then
              Q false
             else
              k1 ())
           else
            k1 ()) (2,0)
        else
         Yh.w  (fun r6=>
          Q r6)) (fun _=>
        (I64 (a1+1)) ∧
        next1 (a1+1))
      else
       Yh.w  (fun r10=>
        Q r10)) 0
    else
     Yh.w  (fun r4=>
      Q r4)))
theorem styluslaw18_ItemsGlues.ok {a0_:List Ze} {a1_:Zg} {Q:Bool→Prop} (hm:styluslaw18_ItemsGlues.w a0_ a1_ Q) (h0:Hp):Zo Tryz.prog n_styluslaw18_ItemsGlues [(.isl 3 (a0_.map Ze.enc)),(.agg (Zg.enc a1_))] h0 (Back h0 (fun r=>(Zk r)) Q):=by
 refine enter_styluslaw18_ItemsGlues ?_
 unfold styluslaw18_ItemsGlues.w at hm
 have H:=AM.Own.nil h0
 try simp -implicitDefEqProofs (disch:=omega) only [push_cast,seval,ac_styluslaw18_ItemsGlues]
 obtain ⟨z1,hm⟩:=hm
 have fa1g0:∀ r:List AV,(List.map (fun v=>AV.val (Value.int IntKind.i64 v)) a1_.Widths++r)[128]? = r[0]?:=fun r=>Zz (k:=0) z1 r
 have fa1t0:∀ r:List AV,(List.map (fun v=>AV.val (Value.int IntKind.i64 v)) a1_.Widths++r).take 129 = List.map (fun v=>AV.val (Value.int IntKind.i64 v)) a1_.Widths++r.take 1:=fun r=>Zr (k:=1) z1 r
 have fa1g1:∀ r:List AV,(List.map (fun v=>AV.val (Value.int IntKind.i64 v)) a1_.Widths++r)[129]? = r[1]?:=fun r=>Zz (k:=1) z1 r
 have fa1t1:∀ r:List AV,(List.map (fun v=>AV.val (Value.int IntKind.i64 v)) a1_.Widths++r).take 130 = List.map (fun v=>AV.val (Value.int IntKind.i64 v)) a1_.Widths++r.take 2:=fun r=>Zr (k:=2) z1 r
 have fa1g2:∀ r:List AV,(List.map (fun v=>AV.val (Value.int IntKind.i64 v)) a1_.Widths++r)[130]? = r[2]?:=fun r=>Zz (k:=2) z1 r
 have fa1t2:∀ r:List AV,(List.map (fun v=>AV.val (Value.int IntKind.i64 v)) a1_.Widths++r).take 131 = List.map (fun v=>AV.val (Value.int IntKind.i64 v)) a1_.Widths++r.take 3:=fun r=>Zr (k:=3) z1 r
 refine ⟨by first | rfl | (rw [Xu z1]; rfl) | (simp [push_cast]; omega),?_⟩
 refine H.newR (List.map (fun v=>AV.val (Value.int IntKind.i64 v)) a1_.Widths++[(aint a1_.Stretch),(aint a1_.Shrink),(.isl 2 (a1_.Pats.map Zj.enc))]) (by first | rfl | (simp only [List.append_assoc,List.cons_append,List.nil_append]; try rfl)) (fun b1 h1 H=>?_)
 have u1:=Xu (f:=(fun v=>AV.val (Value.int IntKind.i64 v))) z1
 have u2:=Vb (f:=(fun v=>AV.val (Value.int IntKind.i64 v))) z1
 refine sg (ai u1 (ai u2 (ai fa1g0 (ai fa1t0 (ai fa1g1 (ai fa1t1 (ai fa1g2 (ai fa1t2 (H.p 0 rfl))))))))) ?_
 refine Zn (fun h=>X3.ok hm h) (fun r1 hm=>?_)
 refine sg (ai u1 (ai u2 (ai fa1g0 (ai fa1t0 (ai fa1g1 (ai fa1t1 (ai fa1g2 (ai fa1t2 (H.p 0 rfl))))))))) ?_
 rw [Zw]
 refine ⟨fun c1=>?_,fun c1=>?_⟩
 ·replace hm:=ifp hm c1
  have F1:=ai fa1g0 (ai fa1t0 (ai fa1g1 (ai fa1t1 (ai fa1g2 (ai fa1t2 c1)))))
  refine sg (ai F1 (ai u1 (ai u2 (H.p 0 rfl)))) ?_
  refine Zn (fun h=>Yh.ok hm h) (fun r2 hm=>?_)
  refine sg (ai F1 (ai u1 (ai u2 (H.p 0 rfl)))) ?_
  exact Zb (.inl rfl) r2 _ rfl (Zf.refl _ _) H.sub hm
 replace hm:=ifn hm (by rw [c1]; exact Bool.false_ne_true)
 have F2:=ai fa1g0 (ai fa1t0 (ai fa1g1 (ai fa1t1 (ai fa1g2 (ai fa1t2 c1)))))
 refine sg (ai F2 (ai u1 (ai u2 (H.p 0 rfl)))) ?_
 refine Zn (fun h=>K7.ok hm h) (fun r3 hm=>?_)
 refine sg (ai F2 (ai u1 (ai u2 (H.p 0 rfl)))) ?_
 refine fkc (fun c2=>?_) fun c2=>?_
 ·replace hm:=ifn hm c2
  refine sg (ai F2 (ai u1 (ai u2 (ai (eq_false c2) (H.p 0 rfl))))) ?_
  refine Zn (fun h=>Yh.ok hm h) (fun r4 hm=>?_)
  refine sg (ai F2 (ai u1 (ai u2 (ai (eq_false c2) (H.p 0 rfl))))) ?_
  exact Zb (.inl rfl) r4 _ rfl (Zf.refl _ _) H.sub hm
 replace c2:=Decidable.not_not.1 c2
 replace hm:=ifp hm c2
 refine sg (ai F2 (ai u1 (ai u2 (ai (eq_true c2) (H.p 0 rfl))))) ?_
 obtain ⟨inv1,mu1,hi1,hs1⟩:=hm
 replace H:=H.pm [0]
 refine Z7 (σ:=Int×Hp) (fun ⟨a1,h2⟩=>⟨((((List.replicate 146 AV.any).set 0 (.isl 3 (a0_.map Ze.enc))).set 3 (.optr b1 131 0 0)).set 5 (.isl 1 (r3.1.map Yd))).set 7 (aint a1),h2⟩) (fun ⟨a1,h2⟩=>inv1 a1∧AM.Own h0 h2 [⟨(.optr b1 131 0 0),true,131,[(List.map (fun v=>AV.val (Value.int IntKind.i64 v)) a1_.Widths++[(aint a1_.Stretch),(aint a1_.Shrink),(.isl 2 (a1_.Pats.map Zj.enc))])],some (26,131)⟩]) (fun ⟨a1,h2⟩=>mu1 a1) ⟨0,h1⟩ (rtw) ⟨hi1,H⟩ ?_
 rintro ⟨a1,h2⟩ ⟨hi1,H⟩
 have hm:=hs1 _ hi1
 dsimp only at hm H ⊢
 have F3:=ai fa1g0 (ai fa1t0 (ai fa1g1 (ai fa1t1 (ai fa1g2 (ai fa1t2 (ai c1 (eq_true c2)))))))
 refine sg (ai F3 (ai u1 (ai u2 (H.p 0 rfl)))) ?_
 refine fkc (fun c3=>?_) fun c3=>?_
 ·replace hm:=ifp hm c3
  refine sg (ai F3 (ai u1 (ai u2 (ai (eq_true c3) (H.p 0 rfl))))) ?_
  obtain ⟨k1,hm,hk1⟩:=Yn hm
  obtain ⟨M1,hM1⟩:∃ M:AM.St→Prop,M = (fun s'=>∃ (h3:Hp),Like s'.tm (((((List.replicate 146 none).set 0 (some (.isl 3 (a0_.map Ze.enc)))).set 3 (some (.optr b1 131 0 0))).set 5 (some (.isl 1 (r3.1.map Yd)))).set 7 (some (aint a1)))∧s'.h = h3∧AM.Own h0 h3 [⟨(.optr b1 131 0 0),true,131,[(List.map (fun v=>AV.val (Value.int IntKind.i64 v)) a1_.Widths++[(aint a1_.Stretch),(aint a1_.Shrink),(.isl 2 (a1_.Pats.map Zj.enc))])],some (26,131)⟩]∧k1 ()):=⟨_,rfl⟩
  refine Xe M1 ?_ ?_
  ·obtain ⟨z2,v1,i1,hm⟩:=hm
   refine sg (ai F3 (ai u1 (ai u2 (ai (eq_true c3) (ai (eq_true z2) (ai i1 (H.p 0 rfl))))))) ?_
   obtain ⟨r5,g1,hm⟩:=hm
   refine K4a _ (Jc (fun h=>Jn.ok g1 h)) ?_
   refine sg (ai F3 (ai u1 (ai u2 (ai (eq_true c3) (ai (eq_true z2) (ai i1 (H.p 0 rfl))))))) ?_
   refine fkc (fun c4=>?_) fun c4=>?_
   ·replace hm:=ifn hm c4
    have F4:=ai F3 (ai (eq_true c3) (ai (eq_true z2) (ai i1 (eq_false c4))))
    refine sg (ai F4 (ai u1 (ai u2 (H.p 0 rfl)))) ?_
    refine Zn (fun h=>Yh.ok hm h) (fun r6 hm=>?_)
    refine sg (ai F4 (ai u1 (ai u2 (H.p 0 rfl)))) ?_
    exact Zb (.inl rfl) r6 _ rfl (Zf.refl _ _) H.sub hm
   replace c4:=Decidable.not_not.1 c4
   replace hm:=ifp hm c4
   have F5:=ai F3 (ai (eq_true c3) (ai (eq_true z2) (ai i1 (eq_true c4))))
   refine sg (ai F5 (ai u1 (ai u2 (H.p 0 rfl)))) ?_
   obtain ⟨inv2,mu2,hi2,hs2⟩:=hm
   replace H:=H.pm [0]
   refine Z7 (σ:=(Int×Int)×Hp) (fun ⟨⟨a2,a3⟩,h4⟩=>⟨(((((((List.replicate 146 AV.any).set 0 (.isl 3 (a0_.map Ze.enc))).set 3 (.optr b1 131 0 0)).set 5 (.isl 1 (r3.1.map Yd))).set 7 (aint a1)).set 8 (.isl 5 (r5.1.map Zh.enc))).set 10 (aint a2)).set 11 (aint a3),h4⟩) (fun ⟨⟨a2,a3⟩,h4⟩=>inv2 (a2,a3)∧AM.Own h0 h4 [⟨(.optr b1 131 0 0),true,131,[(List.map (fun v=>AV.val (Value.int IntKind.i64 v)) a1_.Widths++[(aint a1_.Stretch),(aint a1_.Shrink),(.isl 2 (a1_.Pats.map Zj.enc))])],some (26,131)⟩]) (fun ⟨⟨a2,a3⟩,h4⟩=>mu2 (a2,a3)) ⟨(2,0),h2⟩ (rtw) ⟨hi2,H⟩ ?_
   rintro ⟨⟨a2,a3⟩,h4⟩ ⟨hi2,H⟩
   have hm:=hs2 _ hi2
   dsimp only at hm H ⊢
   have F6:=ai fa1g0 (ai fa1t0 (ai fa1g1 (ai fa1t1 (ai fa1g2 (ai fa1t2 (ai c1 (ai (eq_true c2) (ai (eq_true c3) (ai (eq_true z2) (ai i1 (eq_true c4)))))))))))
   refine sg (ai F6 (ai u1 (ai u2 (H.p 0 rfl)))) ?_
   refine fkc (fun c5=>?_) fun c5=>?_
   ·replace hm:=ifp hm c5
    refine sg (ai F6 (ai u1 (ai u2 (ai (eq_true c5) (H.p 0 rfl))))) ?_
    obtain ⟨k2,hm,hk2⟩:=Yn hm
    obtain ⟨M2,hM2⟩:∃ M:AM.St→Prop,M = (fun s'=>∃ (a4:Int) (h5:Hp),Like s'.tm ((((((((List.replicate 146 none).set 0 (some (.isl 3 (a0_.map Ze.enc)))).set 3 (some (.optr b1 131 0 0))).set 5 (some (.isl 1 (r3.1.map Yd)))).set 7 (some (aint a1))).set 8 (some (.isl 5 (r5.1.map Zh.enc)))).set 10 (some (aint a4))).set 11 (some (aint a3)))∧s'.h = h5∧AM.Own h0 h5 [⟨(.optr b1 131 0 0),true,131,[(List.map (fun v=>AV.val (Value.int IntKind.i64 v)) a1_.Widths++[(aint a1_.Stretch),(aint a1_.Shrink),(.isl 2 (a1_.Pats.map Zj.enc))])],some (26,131)⟩]∧k2 a4):=⟨_,rfl⟩
    refine Xe M2 ?_ ?_
    ·obtain ⟨z3,v2,i2,hm⟩:=hm
     refine sg (ai F6 (ai u1 (ai u2 (ai (eq_true c5) (ai (eq_true z3) (ai i2 (H.p 0 rfl))))))) ?_
     refine H.newR [(aint 0),(aint 0),(aint 0),(aint 0),(aint 0)] rfl (fun b2 h6 H=>?_)
     refine sg (ai F6 (ai u1 (ai u2 (ai (eq_true c5) (ai (eq_true z3) (ai i2 (ai (H.p 0 rfl) (H.p 1 rfl)))))))) ?_
     refine H.stP 1 (Zh.enc v2) rfl rfl rfl rfl (Nat.le_of_ble_eq_true rfl) rfl (fun h7 H=>?_)
     refine sg (ai F6 (ai u1 (ai u2 (ai (eq_true c5) (ai (eq_true z3) (ai i2 (ai (H.p 0 rfl) (H.p 1 rfl)))))))) ?_
     obtain ⟨k3,hm,hk3⟩:=Yn hm
     obtain ⟨M3,hM3⟩:∃ M:AM.St→Prop,M = (fun s'=>∃ (h8:Hp),Like s'.tm ((((((((List.replicate 146 none).set 0 (some (.isl 3 (a0_.map Ze.enc)))).set 3 (some (.optr b1 131 0 0))).set 5 (some (.isl 1 (r3.1.map Yd)))).set 7 (some (aint a1))).set 8 (some (.isl 5 (r5.1.map Zh.enc)))).set 11 (some (aint a3))).set 12 (some (.optr b2 5 0 0)))∧s'.h = h8∧AM.Own h0 h8 [⟨(.optr b1 131 0 0),true,131,[(List.map (fun v=>AV.val (Value.int IntKind.i64 v)) a1_.Widths++[(aint a1_.Stretch),(aint a1_.Shrink),(.isl 2 (a1_.Pats.map Zj.enc))])],some (26,131)⟩,⟨(.optr b2 5 0 0),true,5,[(Zh.enc v2)],some (41,5)⟩]∧k3 ()):=⟨_,rfl⟩
     refine Xe M3 ?_ ?_
     ·refine sg (ai F6 (ai u1 (ai u2 (ai (eq_true c5) (ai (eq_true z3) (ai i2 (ai (H.p 0 rfl) (H.p 1 rfl)))))))) ?_
      refine fkc (fun c6=>?_) fun c6=>?_
      ·replace hm:=ifp hm c6
       have F7:=ai F6 (ai (eq_true c5) (ai (eq_true z3) (ai i2 (eq_true c6))))
       refine sg (ai F7 (ai u1 (ai u2 (ai (H.p 0 rfl) (H.p 1 rfl))))) ?_
       replace H:=H.pm [0]
       subst hM2
       exact ⟨a2,h7,lkt,rfl,H,hm⟩
      replace hm:=ifn hm c6
      have F8:=ai F6 (ai (eq_true c5) (ai (eq_true z3) (ai i2 (eq_false c6))))
      refine sg (ai F8 (ai u1 (ai u2 (ai (H.p 0 rfl) (H.p 1 rfl))))) ?_
      refine fkc (fun c7=>?_) fun c7=>?_
      ·replace hm:=ifp hm c7
       refine sg (ai F8 (ai u1 (ai u2 (ai (eq_true c7) (ai (H.p 0 rfl) (H.p 1 rfl)))))) ?_
       refine gfk' (fun c8=>?_) fun c8=>?_
       ·replace hm:=ifp hm c8
        refine sg (ai F8 (ai u1 (ai u2 (ai (eq_true c7) (ai (eq_true c8) (ai (H.p 0 rfl) (H.p 1 rfl))))))) ?_
        exact Zb (.inl rfl) false _ rfl (Zf.refl _ _) H.sub hm
       replace hm:=ifn hm c8
       obtain ⟨w1,hm⟩:=hm
       have F9:=ai F8 (ai (eq_true c7) (ai (eq_false c8) (wrap_i64 _ w1)))
       refine sg (ai F9 (ai u1 (ai u2 (ai (H.p 0 rfl) (H.p 1 rfl))))) ?_
       refine gfk' (fun c9=>?_) fun c9=>?_
       ·replace hm:=ifp hm c9
        refine sg (ai F9 (ai u1 (ai u2 (ai (eq_true c9) (ai (H.p 0 rfl) (H.p 1 rfl)))))) ?_
        exact Zb (.inl rfl) false _ rfl (Zf.refl _ _) H.sub hm
       replace hm:=ifn hm c9
       obtain ⟨w2,z4,v3,i3,hm⟩:=hm
       have F10:=ai F9 (ai (eq_false c9) (ai (wrap_i64 _ w2) (ai (eq_true z4) i3)))
       refine sg (ai F10 (ai u1 (ai u2 (ai (H.p 0 rfl) (H.p 1 rfl))))) ?_
       obtain ⟨r7,g2,hm⟩:=hm
       refine K4a _ (Jc (fun h=>styluslaw18_lettered.ok g2 h)) ?_
       refine sg (ai F10 (ai u1 (ai u2 (ai (H.p 0 rfl) (H.p 1 rfl))))) ?_
       rw [Xh]
       refine ⟨fun c10=>?_,fun c10=>?_⟩
       ·replace hm:=ifp hm c10
        refine sg (ai F10 (ai u1 (ai u2 (ai c10 (ai (H.p 0 rfl) (H.p 1 rfl)))))) ?_
        exact Zb (.inl rfl) false _ rfl (Zf.refl _ _) H.sub hm
       replace hm:=ifn hm (by rw [c10]; exact Bool.false_ne_true)
       obtain ⟨w3,z5,v4,i4,hm⟩:=hm
       have F11:=ai F10 (ai c10 (ai (wrap_i64 _ w3) (ai (eq_true z5) i4)))
       refine sg (ai F11 (ai u1 (ai u2 (ai (H.p 0 rfl) (H.p 1 rfl))))) ?_
       obtain ⟨r8,g3,hm⟩:=hm
       refine K4a _ (Jc (fun h=>styluslaw18_lettered.ok g3 h)) ?_
       refine sg (ai F11 (ai u1 (ai u2 (ai (H.p 0 rfl) (H.p 1 rfl))))) ?_
       rw [Xh]
       refine ⟨fun c11=>?_,fun c11=>?_⟩
       ·replace hm:=ifp hm c11
        refine sg (ai F11 (ai u1 (ai u2 (ai c11 (ai (H.p 0 rfl) (H.p 1 rfl)))))) ?_
        exact Zb (.inl rfl) false _ rfl (Zf.refl _ _) H.sub hm
       replace hm:=ifn hm (by rw [c11]; exact Bool.false_ne_true)
       obtain ⟨w4,hm⟩:=hm
       refine sg (ai F11 (ai u1 (ai u2 (ai c11 (ai (wrap_i64 _ w4) (ai (H.p 0 rfl) (H.p 1 rfl))))))) ?_
       refine gfk' (fun c12=>?_) fun c12=>?_
       ·replace hm:=ifn hm c12
        have F12:=ai F11 (ai c11 (ai (wrap_i64 _ w4) (eq_false c12)))
        refine sg (ai F12 (ai u1 (ai u2 (ai (H.p 0 rfl) (H.p 1 rfl))))) ?_
        exact Zb (.inl rfl) false _ rfl (Zf.refl _ _) H.sub hm
       replace c12:=Decidable.not_not.1 c12
       replace hm:=ifp hm c12
       obtain ⟨v6,i6,hm⟩:=hm
       have i6a:∀ r:List AV,(List.map (fun v=>AV.val (Value.int IntKind.i64 v)) a1_.Widths++r)[45]? = some ((fun v=>AV.val (Value.int IntKind.i64 v)) v6):=fun r=>by simpa using arrAtA (f:=(fun v=>AV.val (Value.int IntKind.i64 v))) i6 r
       have F13:=ai F11 (ai c11 (ai (wrap_i64 _ w4) (ai (eq_true c12) i6a)))
       refine sg (ai F13 (ai u1 (ai u2 (ai (H.p 0 rfl) (H.p 1 rfl))))) ?_
       refine gfk' (fun c13=>?_) fun c13=>?_
       ·replace hm:=ifn hm c13
        refine sg (ai F13 (ai u1 (ai u2 (ai (eq_false c13) (ai (H.p 0 rfl) (H.p 1 rfl)))))) ?_
        exact Zb (.inl rfl) false _ rfl (Zf.refl _ _) H.sub hm
       replace c13:=Decidable.not_not.1 c13
       replace hm:=ifp hm c13
       refine sg (ai F13 (ai u1 (ai u2 (ai (eq_true c13) (ai (H.p 0 rfl) (H.p 1 rfl)))))) ?_
       refine gfk' (fun c14=>?_) fun c14=>?_
       ·replace hm:=ifn hm c14
        refine sg (ai F13 (ai u1 (ai u2 (ai (eq_true c13) (ai (eq_false c14) (ai (H.p 0 rfl) (H.p 1 rfl))))))) ?_
        exact Zb (.inl rfl) false _ rfl (Zf.refl _ _) H.sub hm
       replace c14:=Decidable.not_not.1 c14
       replace hm:=ifp hm c14
       refine sg (ai F13 (ai u1 (ai u2 (ai (eq_true c13) (ai (eq_true c14) (ai (H.p 0 rfl) (H.p 1 rfl))))))) ?_
       refine fkc (fun c15=>?_) fun c15=>?_
       ·replace hm:=ifn hm c15
        have F14:=ai F13 (ai (eq_true c13) (ai (eq_true c14) (eq_false c15)))
        refine sg (ai F14 (ai u1 (ai u2 (ai (H.p 0 rfl) (H.p 1 rfl))))) ?_
        exact Zb (.inl rfl) false _ rfl (Zf.refl _ _) H.sub hm
       replace c15:=Decidable.not_not.1 c15
       replace hm:=ifp hm c15
       have F15:=ai F13 (ai (eq_true c13) (ai (eq_true c14) (eq_true c15)))
       refine sg (ai F15 (ai u1 (ai u2 (ai (H.p 0 rfl) (H.p 1 rfl))))) ?_
       replace H:=H.pm [0]
       subst hM2
       exact ⟨a2,h7,lkt,rfl,H,hm⟩
      replace hm:=ifn hm c7
      refine sg (ai F8 (ai u1 (ai u2 (ai (eq_false c7) (ai (H.p 0 rfl) (H.p 1 rfl)))))) ?_
      refine fkc (fun c16=>?_) fun c16=>?_
      ·replace hm:=ifp hm c16
       refine sg (ai F8 (ai u1 (ai u2 (ai (eq_false c7) (ai (eq_true c16) (ai (H.p 0 rfl) (H.p 1 rfl))))))) ?_
       refine gfk' (fun c17=>?_) fun c17=>?_
       ·replace hm:=ifp hm c17
        have F16:=ai F8 (ai (eq_false c7) (ai (eq_true c16) (eq_true c17)))
        refine sg (ai F16 (ai u1 (ai u2 (ai (H.p 0 rfl) (H.p 1 rfl))))) ?_
        exact Zb (.inl rfl) false _ rfl (Zf.refl _ _) H.sub hm
       replace hm:=ifn hm c17
       have F17:=ai F8 (ai (eq_false c7) (ai (eq_true c16) (eq_false c17)))
       refine sg (ai F17 (ai u1 (ai u2 (ai (H.p 0 rfl) (H.p 1 rfl))))) ?_
       refine gfk' (fun c18=>?_) fun c18=>?_
       ·replace hm:=ifn hm c18
        refine sg (ai F17 (ai u1 (ai u2 (ai (eq_false c18) (ai (H.p 0 rfl) (H.p 1 rfl)))))) ?_
        exact Zb (.inl rfl) false _ rfl (Zf.refl _ _) H.sub hm
       replace c18:=Decidable.not_not.1 c18
       replace hm:=ifp hm c18
       refine sg (ai F17 (ai u1 (ai u2 (ai (eq_true c18) (ai (H.p 0 rfl) (H.p 1 rfl)))))) ?_
       refine fkc (fun c19=>?_) fun c19=>?_
       ·replace hm:=ifn hm c19
        refine sg (ai F17 (ai u1 (ai u2 (ai (eq_true c18) (ai (eq_false c19) (ai (H.p 0 rfl) (H.p 1 rfl))))))) ?_
        exact Zb (.inl rfl) false _ rfl (Zf.refl _ _) H.sub hm
       replace c19:=Decidable.not_not.1 c19
       replace hm:=ifp hm c19
       refine sg (ai F17 (ai u1 (ai u2 (ai (eq_true c18) (ai (eq_true c19) (ai (H.p 0 rfl) (H.p 1 rfl))))))) ?_
       replace H:=H.pm [0,1]
       subst hM3
       exact ⟨h7,lkt,rfl,H,hm⟩
      replace hm:=ifn hm c16
      refine sg (ai F8 (ai u1 (ai u2 (ai (eq_false c7) (ai (eq_false c16) (ai (H.p 0 rfl) (H.p 1 rfl))))))) ?_
      replace H:=H.pm [0,1]
      subst hM3
      exact ⟨h7,lkt,rfl,H,hm⟩
     subst hM3
     rintro ⟨tm,h8⟩ ⟨_,hL,rfl,H,hm⟩
     dsimp only at hL H
     obtain ⟨D,rfl⟩:=hL.fill 0
     replace hm:=hk3 _ hm
     have F18:=ai fa1g0 (ai fa1t0 (ai fa1g1 (ai fa1t1 (ai fa1g2 (ai fa1t2 (ai c1 (ai (eq_true c2) (ai (eq_true c3) (ai (eq_true z2) (ai i1 (ai (eq_true c4) (ai (eq_true c5) (ai (eq_true z3) i2)))))))))))))
     refine sg (ai F18 (ai u1 (ai u2 (ai (H.p 0 rfl) (H.p 1 rfl))))) ?_
     replace H:=H.pm [0]
     subst hM2
     exact ⟨v2.Kind,h8,lkt,rfl,H,hm⟩
    subst hM2
    rintro ⟨tm,h5⟩ ⟨a4,_,hL,rfl,H,hm⟩
    dsimp only at hL H
    obtain ⟨D,rfl⟩:=hL.fill 0
    replace hm:=hk2 _ hm
    obtain ⟨w5,hm⟩:=hm
    have F19:=ai fa1g0 (ai fa1t0 (ai fa1g1 (ai fa1t1 (ai fa1g2 (ai fa1t2 (ai c1 (ai (eq_true c2) (ai (eq_true c3) (ai (eq_true z2) (ai i1 (ai (eq_true c4) (ai (eq_true c5) (wrap_i64 _ w5)))))))))))))
    refine sg (ai F19 (ai u1 (ai u2 (H.p 0 rfl)))) ?_
    replace H:=H.pm [0]
    exact ⟨⟨(a4,a3+1),h5⟩,hm.2,⟨hm.1,H⟩,rtw⟩
   replace hm:=ifn hm c5
   refine sg (ai F6 (ai u1 (ai u2 (ai (eq_false c5) (H.p 0 rfl))))) ?_
   refine gfk (fun c20=>?_) fun c20=>?_
   ·replace hm:=ifp hm c20
    refine sg (ai F6 (ai u1 (ai u2 (ai (eq_false c5) (ai (eq_true c20) (H.p 0 rfl)))))) ?_
    refine Zn (fun h=>styluslaw18_boxes.ok hm h) (fun r9 hm=>?_)
    refine sg (ai F6 (ai u1 (ai u2 (ai (eq_false c5) (ai (eq_true c20) (H.p 0 rfl)))))) ?_
    refine fkc (fun c21=>?_) fun c21=>?_
    ·replace hm:=ifp hm c21
     have F20:=ai F6 (ai (eq_false c5) (ai (eq_true c20) (eq_true c21)))
     refine sg (ai F20 (ai u1 (ai u2 (H.p 0 rfl)))) ?_
     exact Zb (.inl rfl) false _ rfl (Zf.refl _ _) H.sub hm
    replace hm:=ifn hm c21
    have F21:=ai F6 (ai (eq_false c5) (ai (eq_true c20) (eq_false c21)))
    refine sg (ai F21 (ai u1 (ai u2 (H.p 0 rfl)))) ?_
    replace H:=H.pm [0]
    subst hM1
    exact ⟨h4,lkt,rfl,H,hm⟩
   replace hm:=ifn hm c20
   refine sg (ai F6 (ai u1 (ai u2 (ai (eq_false c5) (ai (eq_false c20) (H.p 0 rfl)))))) ?_
   replace H:=H.pm [0]
   subst hM1
   exact ⟨h4,lkt,rfl,H,hm⟩
  subst hM1
  rintro ⟨tm,h3⟩ ⟨_,hL,rfl,H,hm⟩
  dsimp only at hL H
  obtain ⟨D,rfl⟩:=hL.fill 0
  replace hm:=hk1 _ hm
  obtain ⟨w6,hm⟩:=hm
  have F22:=ai fa1g0 (ai fa1t0 (ai fa1g1 (ai fa1t1 (ai fa1g2 (ai fa1t2 (ai c1 (ai (eq_true c2) (ai (eq_true c3) (wrap_i64 _ w6)))))))))
  refine sg (ai F22 (ai u1 (ai u2 (H.p 0 rfl)))) ?_
  replace H:=H.pm [0]
  exact ⟨⟨a1+1,h3⟩,hm.2,⟨hm.1,H⟩,rtw⟩
 replace hm:=ifn hm c3
 refine sg (ai F3 (ai u1 (ai u2 (ai (eq_false c3) (H.p 0 rfl))))) ?_
 refine Zn (fun h=>Yh.ok hm h) (fun r10 hm=>?_)
 refine sg (ai F3 (ai u1 (ai u2 (ai (eq_false c3) (H.p 0 rfl))))) ?_
 exact Zb (.inl rfl) r10 _ rfl (Zf.refl _ _) H.sub hm
end Go.Proofs.YtpkhmfedaaoalaaGreatDoor
