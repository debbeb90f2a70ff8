/- ItemsGlues: a part of its proof (packed by a program). -/
import Derived.Test.YtpkhmfedaaoalaaGreatDoorSqz
import Derived.Test.YtpkhmfedaaoalaaGreatDoorHkf
import Derived.Test.YtpkhmfedaaoalaaGreatDoorWA10
set_option linter.all false
namespace Go.Proofs.YtpkhmfedaaoalaaGreatDoor
open Go Go.Proofs.YtpkhmfedaaoalaaGreatDoor.AM
set_option maxRecDepth 100000
set_option maxHeartbeats 4000000
abbrev Ji:Nat:=96
noncomputable def Wk:AC:=
 (.seq (.reg [oO 4 (.assign (oC 0))]) (.seq (.seq (.reg [oM 6 0,oN 7 6 24,oO 8 (.move (oC 0))]) (.block 0 (.loop (.seq (.reg [oO 9 (.binOp .lss 3 (oT 8) (oT 7) 3)]) (.seq (.cond (oT 9) .skip (.exit 0)) (.seq (.block 1 (.seq (.reg [oM 10 8,oA 5 10]) (.seq (.reg [oM 11 1,oM 12 0,oM 13 5,oI 14 24 12 13,oL 15 47 14,oO 16 (.call (.mk (.value (oT 11)) #[(oT 15)] #[47]))]) (.cond (oT 16) (.seq (.reg [oM 17 5,oA 4 17]) .ret) .skip)))) (.reg [oO 18 (.binOp .add 3 (oT 8) (oC 1) 3),oM 8 18]))))))) (.seq (.reg [oO 4 (.assign (oC (-1)))]) .ret)))
theorem Kj:EN Wk [(ResultVar.tmp 4)] 19 96:=acE Tryz.func96 (ann:=Yy)
def Ya.w (a0_:List Zj) (Q:Int→Prop):Prop:=
 X2 (σ:=Int) (fun a1 next1=>
  if a1 < (a0_.length:Int) then
   (0≤a1) ∧
   ∃ v1:Zj,a0_[a1.toNat]? = some v1 ∧
   W4.w v1 (fun r1=>
    if r1 = true then
     Q a1
    else
     (I64 (a1+1)) ∧
     next1 (a1+1))
  else
   Q (-1)) 0
theorem Ya.ok {a0_:List Zj} {Q:Int→Prop} (hm:Ya.w a0_ Q) (h0:Hp):Zo Tryz.prog Ji [(.isl 2 (a0_.map Zj.enc)),(.fn (.func 47) [] [])] h0 (Back h0 (fun r=>(aint r)) Q):=by
 refine Kj ?_
 unfold Ya.w at hm
 have H:=AM.Own.nil h0
 try simp -implicitDefEqProofs (disch:=omega) only [push_cast,seval,Wk]
 obtain ⟨inv1,mu1,hi1,hs1⟩:=hm
 replace H:=H.pm []
 refine Z7 (σ:=Int×Hp) (fun ⟨a1,h1⟩=>⟨((((List.replicate 19 AV.any).set 0 (.isl 2 (a0_.map Zj.enc))).set 1 (.fn (.func 47) [] [])).set 7 (aint (a0_.length:Int))).set 8 (aint a1),h1⟩) (fun ⟨a1,h1⟩=>inv1 a1∧AM.Own h0 h1 []) (fun ⟨a1,h1⟩=>mu1 a1) ⟨0,h0⟩ (rtw) ⟨hi1,H⟩ ?_
 rintro ⟨a1,h1⟩ ⟨hi1,H⟩
 have hm:=hs1 _ hi1
 dsimp only at hm H ⊢
 refine sg0 ?_
 refine fkc (fun c1=>?_) fun c1=>?_
 ·replace hm:=ifp hm c1
  obtain ⟨z1,v1,i1,hm⟩:=hm
  refine sg (ai (eq_true c1) (ai (eq_true z1) i1)) ?_
  refine Zn (fun h=>W4.ok hm h) (fun r1 hm=>?_)
  refine sg (ai (eq_true c1) (ai (eq_true z1) i1)) ?_
  rw [Zw]
  refine ⟨fun c2=>?_,fun c2=>?_⟩
  ·replace hm:=ifp hm c2
   refine sg (ai (eq_true c1) (ai (eq_true z1) (ai i1 c2))) ?_
   exact Zb (.inl rfl) a1 _ rfl (Zf.refl _ _) H.sub hm
  replace hm:=ifn hm (by rw [c2]; exact Bool.false_ne_true)
  obtain ⟨w1,hm⟩:=hm
  have F1:=ai (eq_true c1) (ai (eq_true z1) (ai i1 (ai c2 (wrap_i64 _ w1))))
  refine sg F1 ?_
  replace H:=H.pm []
  exact ⟨⟨a1+1,h1⟩,hm.2,⟨hm.1,H⟩,rtw⟩
 replace hm:=ifn hm c1
 refine sg (eq_false c1) ?_
 exact Zb (.inl rfl) (-1) _ rfl (Zf.refl _ _) H.sub hm
abbrev Kr:Nat:=50
noncomputable def X1:AC:=
 (.seq (.reg [oO 4 (.assign (.const (.bool false)))]) (.seq (.reg [oM 5 0,oM 6 1,oO 7 (oK 96 #[(oT 5),(oT 6)] #[24,81]),oO 8 (.binOp .geq 3 (oT 7) (oC 0) 3),oA 4 8]) .ret))
theorem Vu:EN X1 [(ResultVar.tmp 4)] 9 50:=acE Tryz.func50 (ann:=Yy)
def Zy.w (a0_:List Zj) (Q:Bool→Prop):Prop:=
 Ya.w a0_ (fun r1=>
  Q (decide (0≤r1)))
theorem Zy.ok {a0_:List Zj} {Q:Bool→Prop} (hm:Zy.w a0_ Q) (h0:Hp):Zo Tryz.prog Kr [(.isl 2 (a0_.map Zj.enc)),(.fn (.func 47) [] [])] h0 (Back h0 (fun r=>(Zk r)) Q):=by
 refine Vu ?_
 unfold Zy.w at hm
 have H:=AM.Own.nil h0
 try simp -implicitDefEqProofs (disch:=omega) only [push_cast,seval,X1]
 refine Zn (fun h=>Ya.ok hm h) (fun r1 hm=>?_)
 refine sg0 ?_
 exact Zb (.inl rfl) (decide (0≤r1)) _ rfl (Zf.refl _ _) H.sub hm
abbrev n_metric_Check:Nat:=24
noncomputable def Xzb:AC:=
 (.seq (.reg [oF 5 26 1 1,oL 6 3 5,oO 7 (.binOp .geq 3 (oT 6) (oC 0) 3),oM 8 7,oG 9 8 true (.fieldAddr 26 (oT 1) 1),oG 10 8 true (.load 3 (oT 9)),oG 11 8 true (.binOp .leq 3 (oT 10) (oC 2000) 3),oO 12 (.pick (oT 8) (oT 11) (.const (.bool false))),oM 13 12,oG 14 13 true (.fieldAddr 26 (oT 1) 2),oG 15 13 true (.load 3 (oT 14)),oG 16 13 true (.binOp .geq 3 (oT 15) (oC 0) 3),oO 17 (.pick (oT 13) (oT 16) (.const (.bool false))),oM 18 17,oG 19 18 true (.fieldAddr 26 (oT 1) 2),oG 20 18 true (.load 3 (oT 19)),oG 21 18 true (.fieldAddr 26 (oT 1) 0),oG 22 18 true (.indexAddr 23 (oT 21) (oC 32)),oG 23 18 true (.load 3 (oT 22)),oG 24 18 true (.binOp .lss 3 (oT 20) (oT 23) 3),oO 25 (.pick (oT 18) (oT 24) (.const (.bool false))),oA 4 25]) (.seq (.seq (.reg [oL 26 26 1,oO 27 (oK 49 #[(oT 26)] #[26]),oO 28 (.unOp .not 4 (oT 27)),oM 29 28,oG 30 29 false (.move (oT 4)),oG 31 29 false (.unOp .not 4 (oT 30)),oO 32 (.pick (oT 29) (.const (.bool true)) (oT 31)),oM 33 32,oG 34 33 false (.fieldAddr 26 (oT 1) 3),oG 35 33 false (.load 24 (oT 34)),oG 36 33 false (.call (.mk (.builtin .len) #[(oT 35)] #[24])),oG 37 33 false (.binOp .gtr 3 (oT 36) (oC 500) 3),oO 38 (.pick (oT 33) (.const (.bool true)) (oT 37)),oM 39 38,oG 40 39 false (.fieldAddr 26 (oT 1) 3),oG 41 39 false (.load 24 (oT 40)),oG 42 39 false (.move (oT 3)),oG 43 39 false (oK 50 #[(oT 41),(oT 42)] #[24,81]),oO 44 (.pick (oT 39) (.const (.bool true)) (oT 43))]) (.cond (oT 44) (.seq (.reg [oO 2 (.assign (oC 7))]) .ret) .skip)) (.seq (.reg [oO 2 (.assign (oC 0))]) .ret)))
noncomputable def Koa:AC:=
 (.seq (.reg [oO 1 (.box 26 (oT 0)),oO 2 (.assign (oC 0))]) (.seq (.reg [oO 3 (.assign (.func 47))]) Xzb))
theorem Xcb:EN Koa [(ResultVar.tmp 2)] 45 24:=acE Tryz.func24 (ann:=Yy)
def V5.w (a0_:Zg) (Q:Int→Prop):Prop:=
 (a0_.Widths.length = 128) ∧
 wcut (α:=Bool) (fun k1=>
  if 0≤a0_.Stretch then
   if a0_.Stretch≤2000 then
    if 0≤a0_.Shrink then
     ∃ v1:Int,a0_.Widths[32]? = some v1 ∧
     k1 (decide (a0_.Shrink < v1))
    else
     k1 false
   else
    k1 false
  else
   k1 false) (fun a1=>
  Ve.w a0_ (fun r1=>
   if (!r1) = true then
    Q 7
   else
    if (!a1) = true then
     Q 7
    else
     if 500 < (a0_.Pats.length:Int) then
      Q 7
     else
      Zy.w a0_.Pats (fun r2=>
       if r2 = true then
        Q 7
       else
        Q 0)))
theorem V5.ok {a0_:Zg} {Q:Int→Prop} (hm:V5.w a0_ Q) (h0:Hp):Zo Tryz.prog n_metric_Check [(.agg (Zg.enc a0_))] h0 (Back h0 (fun r=>(aint r)) Q):=by
 refine Xcb ?_
 unfold V5.w at hm
 have H:=AM.Own.nil h0
 try simp -implicitDefEqProofs (disch:=omega) only [push_cast,seval,Koa]
 obtain ⟨z1,hm⟩:=hm
 have fa1g0:∀ r:List AV,(List.map (fun v=>AV.val (Value.int IntKind.i64 v)) a0_.Widths++r)[128]? = r[0]?:=fun r=>Zz (k:=0) z1 r
 have fa1t0:∀ r:List AV,(List.map (fun v=>AV.val (Value.int IntKind.i64 v)) a0_.Widths++r).take 129 = List.map (fun v=>AV.val (Value.int IntKind.i64 v)) a0_.Widths++r.take 1:=fun r=>Zr (k:=1) z1 r
 have fa1g1:∀ r:List AV,(List.map (fun v=>AV.val (Value.int IntKind.i64 v)) a0_.Widths++r)[129]? = r[1]?:=fun r=>Zz (k:=1) z1 r
 have fa1t1:∀ r:List AV,(List.map (fun v=>AV.val (Value.int IntKind.i64 v)) a0_.Widths++r).take 130 = List.map (fun v=>AV.val (Value.int IntKind.i64 v)) a0_.Widths++r.take 2:=fun r=>Zr (k:=2) z1 r
 have fa1g2:∀ r:List AV,(List.map (fun v=>AV.val (Value.int IntKind.i64 v)) a0_.Widths++r)[130]? = r[2]?:=fun r=>Zz (k:=2) z1 r
 have fa1t2:∀ r:List AV,(List.map (fun v=>AV.val (Value.int IntKind.i64 v)) a0_.Widths++r).take 131 = List.map (fun v=>AV.val (Value.int IntKind.i64 v)) a0_.Widths++r.take 3:=fun r=>Zr (k:=3) z1 r
 refine ⟨by first | rfl | (rw [Xu z1]; rfl) | (simp [push_cast]; omega),?_⟩
 refine H.newR (List.map (fun v=>AV.val (Value.int IntKind.i64 v)) a0_.Widths++[(aint a0_.Stretch),(aint a0_.Shrink),(.isl 2 (a0_.Pats.map Zj.enc))]) (by first | rfl | (simp only [List.append_assoc,List.cons_append,List.nil_append]; try rfl)) (fun b1 h1 H=>?_)
 have u1:=Xu (f:=(fun v=>AV.val (Value.int IntKind.i64 v))) z1
 have u2:=Vb (f:=(fun v=>AV.val (Value.int IntKind.i64 v))) z1
 refine sg (ai u1 (ai u2 (ai fa1g0 (ai fa1t0 (ai fa1g1 (ai fa1t1 (ai fa1g2 (ai fa1t2 (H.p 0 rfl))))))))) ?_
 obtain ⟨k1,hm,hk1⟩:=Yn hm
 obtain ⟨M1,hM1⟩:∃ M:AM.St→Prop,M = (fun s'=>∃ (a1:Bool) (h2:Hp),Like s'.tm ((((List.replicate 45 none).set 1 (some (.optr b1 131 0 0))).set 3 (some (.fn (.func 47) [] []))).set 4 (some (Zk a1)))∧s'.h = h2∧AM.Own h0 h2 [⟨(.optr b1 131 0 0),true,131,[(List.map (fun v=>AV.val (Value.int IntKind.i64 v)) a0_.Widths++[(aint a0_.Stretch),(aint a0_.Shrink),(.isl 2 (a0_.Pats.map Zj.enc))])],some (26,131)⟩]∧k1 a1):=⟨_,rfl⟩
 refine Xe M1 ?_ ?_
 ·refine sg (ai u1 (ai u2 (ai fa1g0 (ai fa1t0 (ai fa1g1 (ai fa1t1 (ai fa1g2 (ai fa1t2 (H.p 0 rfl))))))))) ?_
  refine gfk (fun c1=>?_) fun c1=>?_
  ·replace hm:=ifp hm c1
   have F1:=ai fa1g0 (ai fa1t0 (ai fa1g1 (ai fa1t1 (ai fa1g2 (ai fa1t2 (eq_true c1))))))
   refine sg (ai F1 (ai u1 (ai u2 (H.p 0 rfl)))) ?_
   refine gfk (fun c2=>?_) fun c2=>?_
   ·replace hm:=ifp hm c2
    refine sg (ai F1 (ai u1 (ai u2 (ai (eq_true c2) (H.p 0 rfl))))) ?_
    refine gfk (fun c3=>?_) fun c3=>?_
    ·replace hm:=ifp hm c3
     obtain ⟨v1,i1,hm⟩:=hm
     have i1a:∀ r:List AV,(List.map (fun v=>AV.val (Value.int IntKind.i64 v)) a0_.Widths++r)[32]? = some ((fun v=>AV.val (Value.int IntKind.i64 v)) v1):=fun r=>by simpa using arrAtA (f:=(fun v=>AV.val (Value.int IntKind.i64 v))) i1 r
     refine sg (ai F1 (ai u1 (ai u2 (ai (eq_true c2) (ai (eq_true c3) (ai i1a (H.p 0 rfl))))))) ?_
     replace H:=H.pm [0]
     subst hM1
     exact ⟨decide (a0_.Shrink < v1),h1,lkt,rfl,H,hm⟩
    replace hm:=ifn hm c3
    refine sg (ai F1 (ai u1 (ai u2 (ai (eq_true c2) (ai (eq_false c3) (H.p 0 rfl)))))) ?_
    replace H:=H.pm [0]
    subst hM1
    exact ⟨false,h1,lkt,rfl,H,hm⟩
   replace hm:=ifn hm c2
   refine sg (ai F1 (ai u1 (ai u2 (ai (eq_false c2) (H.p 0 rfl))))) ?_
   replace H:=H.pm [0]
   subst hM1
   exact ⟨false,h1,lkt,rfl,H,hm⟩
  replace hm:=ifn hm c1
  have F2:=ai fa1g0 (ai fa1t0 (ai fa1g1 (ai fa1t1 (ai fa1g2 (ai fa1t2 (eq_false c1))))))
  refine sg (ai F2 (ai u1 (ai u2 (H.p 0 rfl)))) ?_
  replace H:=H.pm [0]
  subst hM1
  exact ⟨false,h1,lkt,rfl,H,hm⟩
 subst hM1
 rintro ⟨tm,h2⟩ ⟨a1,_,hL,rfl,H,hm⟩
 dsimp only at hL H
 obtain ⟨D,rfl⟩:=hL.fill 0
 replace hm:=hk1 _ hm
 refine sg (ai u1 (ai u2 (ai fa1g0 (ai fa1t0 (ai fa1g1 (ai fa1t1 (ai fa1g2 (ai fa1t2 (H.p 0 rfl))))))))) ?_
 refine Zn (fun h=>Ve.ok hm h) (fun r1 hm=>?_)
 refine sg (ai u1 (ai u2 (ai fa1g0 (ai fa1t0 (ai fa1g1 (ai fa1t1 (ai fa1g2 (ai fa1t2 (H.p 0 rfl))))))))) ?_
 rw [Xh]
 refine ⟨fun c4=>?_,fun c4=>?_⟩
 ·replace hm:=ifp hm c4
  have F3:=ai fa1g0 (ai fa1t0 (ai fa1g1 (ai fa1t1 (ai fa1g2 (ai fa1t2 c4)))))
  refine sg (ai F3 (ai u1 (ai u2 (H.p 0 rfl)))) ?_
  exact Zb (.inl rfl) 7 _ rfl (Zf.refl _ _) H.sub hm
 replace hm:=ifn hm (by rw [c4]; exact Bool.false_ne_true)
 have F4:=ai fa1g0 (ai fa1t0 (ai fa1g1 (ai fa1t1 (ai fa1g2 (ai fa1t2 c4)))))
 refine sg (ai F4 (ai u1 (ai u2 (H.p 0 rfl)))) ?_
 rw [Xh]
 refine ⟨fun c5=>?_,fun c5=>?_⟩
 ·replace hm:=ifp hm c5
  refine sg (ai F4 (ai u1 (ai u2 (ai c5 (H.p 0 rfl))))) ?_
  exact Zb (.inl rfl) 7 _ rfl (Zf.refl _ _) H.sub hm
 replace hm:=ifn hm (by rw [c5]; exact Bool.false_ne_true)
 refine sg (ai F4 (ai u1 (ai u2 (ai c5 (H.p 0 rfl))))) ?_
 refine gfk' (fun c6=>?_) fun c6=>?_
 ·replace hm:=ifp hm c6
  refine sg (ai F4 (ai u1 (ai u2 (ai c5 (ai (eq_true c6) (H.p 0 rfl)))))) ?_
  exact Zb (.inl rfl) 7 _ rfl (Zf.refl _ _) H.sub hm
 replace hm:=ifn hm c6
 refine sg (ai F4 (ai u1 (ai u2 (ai c5 (ai (eq_false c6) (H.p 0 rfl)))))) ?_
 refine Zn (fun h=>Zy.ok hm h) (fun r2 hm=>?_)
 refine sg (ai F4 (ai u1 (ai u2 (ai c5 (ai (eq_false c6) (H.p 0 rfl)))))) ?_
 rw [Zw]
 refine ⟨fun c7=>?_,fun c7=>?_⟩
 ·replace hm:=ifp hm c7
  refine sg (ai F4 (ai u1 (ai u2 (ai c5 (ai (eq_false c6) (ai c7 (H.p 0 rfl))))))) ?_
  exact Zb (.inl rfl) 7 _ rfl (Zf.refl _ _) H.sub hm
 replace hm:=ifn hm (by rw [c7]; exact Bool.false_ne_true)
 refine sg (ai F4 (ai u1 (ai u2 (ai c5 (ai (eq_false c6) (ai c7 (H.p 0 rfl))))))) ?_
 exact Zb (.inl rfl) 0 _ rfl (Zf.refl _ _) H.sub hm
abbrev n_items_begins:Nat:=21
noncomputable def Kpa:AC:=
 (.seq (.reg [oO 1 (.box 43 (oT 0)),oO 2 (.assign (.const (.bool false)))]) (.seq (.reg [oF 3 43 1 0,oL 4 3 3,oO 5 (.binOp .eql 3 (oT 4) (oC 2) 3),oM 6 5,oG 7 6 true (.fieldAddr 43 (oT 1) 1),oG 8 6 true (.load 5 (oT 7)),oG 9 6 true (.call (.mk (.value (.func 43)) #[(.const (.string (ByteArray.mk #[49,50,51,112,105,99,110]))),(oT 8)] #[9,5])),oG 10 6 true (.binOp .geq 3 (oT 9) (oC 0) 3),oO 11 (.pick (oT 6) (oT 10) (.const (.bool false))),oA 2 11]) .ret))
theorem Xdb:EN Kpa [(ResultVar.tmp 2)] 12 21:=acE Tryz.func21 (ann:=Yy)
def Wv.w (a0_:Ze) (Q:Bool→Prop):Prop:=
 if a0_.Kind = 2 then
  strings_IndexByte.w (ByteArray.mk #[49,50,51,112,105,99,110]) a0_.Ch (fun r1=>
   Q (decide (0≤r1)))
 else
  Q false
theorem Wv.ok {a0_:Ze} {Q:Bool→Prop} (hm:Wv.w a0_ Q) (h0:Hp):Zo Tryz.prog n_items_begins [(.agg (Ze.enc a0_))] h0 (Back h0 (fun r=>(Zk r)) Q):=by
 refine Xdb ?_
 unfold Wv.w at hm
 have H:=AM.Own.nil h0
 try simp -implicitDefEqProofs (disch:=omega) only [push_cast,seval,Kpa]
 refine H.newR (Ze.enc a0_) rfl (fun b1 h1 H=>?_)
 refine sg (H.p 0 rfl) ?_
 refine gfk (fun c1=>?_) fun c1=>?_
 ·replace hm:=ifp hm c1
  refine sg (ai (eq_true c1) (H.p 0 rfl)) ?_
  refine Zn (fun h=>strings_IndexByte.ok hm h) (fun r1 hm=>?_)
  refine sg (ai (eq_true c1) (H.p 0 rfl)) ?_
  exact Zb (.inl rfl) (decide (0≤r1)) _ rfl (Zf.refl _ _) H.sub hm
 replace hm:=ifn hm c1
 refine sg (ai (eq_false c1) (H.p 0 rfl)) ?_
 exact Zb (.inl rfl) false _ rfl (Zf.refl _ _) H.sub hm
abbrev n_items_own:Nat:=25
noncomputable def ac_items_own:AC:=
 (.seq (.reg [oO 2 (.box 22 (oT 0)),oO 3 (.box 3 (oT 1)),oO 4 (.assign (.const Value.nilFunc))]) (.seq (.reg [oO 5 (.makeFunc (Fn.func 51) #[] #[(oT 3),(oT 2)]),oA 4 5]) .ret))
theorem enter_items_own:EN ac_items_own [(ResultVar.tmp 4)] 6 25:=acE Tryz.func25 (ann:=Yy)
def Xaa.w (a0_:List Ze) (a1_:Int) (Q:(Int×(List Ze))→Prop):Prop:=
 Q (a1_,a0_)
theorem Xaa.ok {a0_:List Ze} {a1_:Int} {Q:(Int×(List Ze))→Prop} (hm:Xaa.w a0_ a1_ Q) (h0:Hp):Zo Tryz.prog n_items_own [(.isl 3 (a0_.map Ze.enc)),(aint a1_)] h0 (Back h0 (fun r=>(.fn (.func 51) [] [(.iptr [(aint r.1)] 0),(.iptr [(.isl 3 (r.2.map Ze.enc))] 0)])) Q):=by
 refine enter_items_own ?_
 unfold Xaa.w at hm
 have H:=AM.Own.nil h0
 try simp -implicitDefEqProofs (disch:=omega) only [push_cast,seval,ac_items_own]
 refine H.newR [(.isl 3 (a0_.map Ze.enc))] rfl (fun b1 h1 H=>?_)
 refine sg (H.p 0 rfl) ?_
 refine H.newR [(aint a1_)] rfl (fun b2 h2 H=>?_)
 refine sg (ai (H.p 0 rfl) (H.p 1 rfl)) ?_
 obtain ⟨h3,s1,H⟩:=H.freezeP 1 rfl
 obtain ⟨h4,s2,H⟩:=H.freezeP 0 rfl
 exact Zb (.inl rfl) (a1_,a0_) _ rfl (Zf.fn ((X8.at s1 [] [_]).trans (X8.at s2 [_] []))) H.sub hm
abbrev n_items_own_1:Nat:=51
noncomputable def ac_items_own_1_c3:AC:=
 (.seq (.reg [oM 49 5,oO 50 (.binOp .gtr 3 (oT 49) (oC 0) 3),oM 51 50,oG 52 51 false (.move (oT 8)),oO 53 (.pick (oT 51) (.const (.bool true)) (oT 52))]) (.cond (oT 53) (.reg [oM 54 5,oO 55 (.binOp .add 3 (oT 54) (oC 1) 3),oA 5 55]) .skip))
noncomputable def ac_items_own_1_c2:AC:=
 (.seq (.seq (.reg [oM 35 5,oO 36 (.binOp .eql 3 (oT 35) (oC 0) 3),oM 37 36,oG 38 37 true (.fieldAddr 43 (oT 7) 1),oG 39 37 true (.load 5 (oT 38)),oG 40 37 true (.binOp .neq 5 (oT 39) (oD 108) 5),oG 41 37 true (.move (oT 40)),oG 42 41 true (.move (oT 0)),oG 43 41 true (.move (oT 6)),oG 44 41 true (.load 43 (oT 7)),oG 45 41 true (.call (.mk (.value (oT 42)) #[(oT 43),(oT 44)] #[3,43])),oG 46 41 true (.unOp .not 4 (oT 45)),oG 47 37 true (.pick (oT 41) (oT 46) (.const (.bool false))),oO 48 (.pick (oT 37) (oT 47) (.const (.bool false)))]) (.cond (oT 48) .ret .skip)) ac_items_own_1_c3)
noncomputable def ac_items_own_1_c1:AC:=
 (.seq (.reg [oF 21 43 7 1,oL 22 5 21,oO 23 (.binOp .eql 5 (oT 22) (oD 110) 5),oM 24 23,oG 25 24 false (.fieldAddr 43 (oT 7) 1),oG 26 24 false (.load 5 (oT 25)),oG 27 24 false (.binOp .eql 5 (oT 26) (oD 108) 5),oO 28 (.pick (oT 24) (.const (.bool true)) (oT 27)),oA 8 28]) (.block 2 (.seq (.reg [oF 30 43 7 0,oL 31 3 30,oO 32 (.binOp .eql 3 (oT 31) (oC 2) 3),oA 29 32]) (.cond (oT 29) (.seq (.reg [oM 33 4,oO 34 (.binOp .add 3 (oT 33) (oC 1) 3),oA 4 34]) ac_items_own_1_c2) (.seq (.reg [oF 57 43 7 0,oL 58 3 57,oO 59 (.binOp .eql 3 (oT 58) (oC 3) 3),oA 56 59]) (.cond (oT 56) (.seq (.seq (.reg [oM 60 4,oO 61 (.binOp .sub 3 (oT 60) (oC 1) 3),oA 4 61]) (.seq (.reg [oM 62 4,oO 63 (.binOp .eql 3 (oT 62) (oC 0) 3)]) (.cond (oT 63) .ret .skip))) (.seq (.reg [oM 64 5,oO 65 (.binOp .gtr 3 (oT 64) (oC 0) 3)]) (.cond (oT 65) (.reg [oM 66 5,oO 67 (.binOp .sub 3 (oT 66) (oC 1) 3),oA 5 67]) (.seq (.reg [oM 68 0,oM 69 6,oL 70 43 7,oO 71 (.call (.mk (.value (oT 68)) #[(oT 69),(oT 70)] #[3,43])),oO 72 (.unOp .not 4 (oT 71))]) (.cond (oT 72) .ret .skip))))) (.seq (.reg [oM 74 5,oO 75 (.binOp .eql 3 (oT 74) (oC 0) 3),oM 76 75,oG 77 76 true (.move (oT 0)),oG 78 76 true (.move (oT 6)),oG 79 76 true (.load 43 (oT 7)),oG 80 76 true (.call (.mk (.value (oT 77)) #[(oT 78),(oT 79)] #[3,43])),oG 81 76 true (.unOp .not 4 (oT 80)),oO 82 (.pick (oT 76) (oT 81) (.const (.bool false))),oA 73 82]) (.cond (oT 73) .ret .skip))))))))
noncomputable def ac_items_own_1_c4:AC:=
 (.seq (.block 1 (.seq (.reg [oL 17 22 2,oM 18 6,oI 19 22 17 18,oL 20 43 19,oO 7 (.alloc 43),oS (.store 43 (oT 7) (oT 20))]) ac_items_own_1_c1)) (.reg [oM 15 6,oO 16 (.binOp .add 3 (oT 15) (oC 1) 3),oA 6 16]))
noncomputable def J9a:AC:=
 (.seq (.reg [oO 4 (.assign (oC 1)),oO 5 (.assign (oC 0))]) (.seq (.reg [oL 9 3 1,oO 10 (.binOp .add 3 (oT 9) (oC 1) 3),oA 6 10]) (.block 0 (.loop (.seq (.seq (.reg [oM 11 6,oL 12 22 2,oN 13 12 22,oO 14 (.binOp .lss 3 (oT 11) (oT 13) 3)]) (.cond (oT 14) .skip (.exit 0))) ac_items_own_1_c4)))))
theorem enter_items_own_1:EN J9a [] 83 51:=acE Tryz.func51 (ann:=Yy)
def W5.w {σ:Type} (Y:(Int×Ze)→σ→(Bool→σ→Prop)→Prop) (a0_:Int) (a1_:List Ze) (s0:σ) (Q:σ→Prop):Prop:=
 (I64 (a0_+1)) ∧
 X2 (σ:=σ×Int×Int×Int) (fun ⟨s1,a1,a2,a3⟩ next1=>
  if a3 < (a1_.length:Int) then
   wcut (α:=σ×Int×Int) (fun k1=>
    (0≤a3) ∧
    ∃ v1:Ze,a1_[a3.toNat]? = some v1 ∧
    wcut (α:=σ×Bool) (fun k2=>
     if v1.Ch = 110 then
      k2 (s1,true)
     else
      k2 (s1,decide (v1.Ch = 108))) (fun ⟨s3,a6⟩=>
     if v1.Kind = 2 then
      (I64 (a1+1)) ∧
      wcut (α:=σ) (fun k3=>
       if a2 = 0 then
        if v1.Ch = 108 then
         k3 s3
        else
         Y (a3,v1) s3 (fun r1 s5=>
          if (!r1) = true then
           Q s5
          else
           k3 s5)
       else
        k3 s3) (fun s4=>
       wcut (α:=σ×Bool) (fun k4=>
        if 0 < a2 then
         k4 (s4,true)
        else
         k4 (s4,a6)) (fun ⟨s6,a7⟩=>
        if a7 = true then
         (I64 (a2+1)) ∧
         k1 (s6,a1+1,a2+1)
        else
         k1 (s6,a1+1,a2)))
     else
      if v1.Kind = 3 then
       (I64 (a1 - 1)) ∧
       if a1 - 1 = 0 then
        Q s3
       else
        if 0 < a2 then
         (I64 (a2 - 1)) ∧
         k1 (s3,a1 - 1,a2 - 1)
        else
         Y (a3,v1) s3 (fun r2 s7=>
          if (!r2) = true then
           Q s7
          else
           k1 (s7,a1 - 1,a2))
      else
       if a2 = 0 then
        Y (a3,v1) s3 (fun r3 s8=>
         if (!r3) = true then
          Q s8
         else
          k1 (s8,a1,a2))
       else
        k1 (s3,a1,a2))) (fun ⟨s2,a4,a5⟩=>
    (I64 (a3+1)) ∧
    next1 (s2,a4,a5,a3+1))
  else
   Q s1) (s0,1,0,a0_+1)
theorem W5.ok {a0_:Int} {a1_:List Ze} {σ:Type} {Y:(Int×Ze)→σ→(Bool→σ→Prop)→Prop} {s0:σ} {Q:σ→Prop} (hm:W5.w Y a0_ a1_ s0 Q) {gb:Gh} {l:Nat} {R:σ→Hp→Prop} {F hr h0:Hp} (hY:AM.Yields Tryz.prog gb l (fun x=>[(aint x.1),(.agg (Ze.enc x.2))]) R Y) (hR:R s0 hr) (hS:Spl F hr h0):Zo Tryz.prog n_items_own_1 (.yld l gb :: [(.iptr [(aint a0_)] 0),(.iptr [(.isl 3 (a1_.map Ze.enc))] 0)]) h0 (fun e h'=>(∃ x,e = .ret x)∧∃ s' hr',R s' hr'∧Spl F hr' h'∧Q s'):=by
 refine enter_items_own_1 ?_
 unfold W5.w at hm
 have H:=AM.Own.nil h0
 obtain ⟨w1,hm⟩:=hm
 try simp -implicitDefEqProofs (disch:=omega) only [push_cast,seval,J9a,wrap_i64 _ w1]
 obtain ⟨inv1,mu1,hi1,hs1⟩:=hm
 replace H:=H.pm []
 refine Z7 (σ:=(σ×Int×Int×Int)×Hp×Hp×Hp) (fun ⟨⟨s1,a1,a2,a3⟩,hr1,hb1,h1⟩=>⟨(((((List.replicate 83 AV.any).set 0 (.yld l gb)).set 2 (.iptr [(.isl 3 (a1_.map Ze.enc))] 0)).set 4 (aint a1)).set 5 (aint a2)).set 6 (aint a3),h1⟩) (fun ⟨⟨s1,a1,a2,a3⟩,hr1,hb1,h1⟩=>inv1 (s1,a1,a2,a3)∧R s1 hr1∧Spl F hr1 hb1∧AM.Own hb1 h1 []) (fun ⟨⟨s1,a1,a2,a3⟩,hr1,hb1,h1⟩=>mu1 (s1,a1,a2,a3)) ⟨(s0,1,0,a0_+1),hr,h0,h0⟩ (rtw) ⟨hi1,hR,hS,H⟩ ?_
 rintro ⟨⟨s1,a1,a2,a3⟩,hr1,hb1,h1⟩ ⟨hi1,hR,hS,H⟩
 have hm:=hs1 _ hi1
 dsimp only at hm H ⊢
 refine sg (wrap_i64 _ w1) ?_
 refine fkc (fun c1=>?_) fun c1=>?_
 ·replace hm:=ifp hm c1
  refine sg (ai (wrap_i64 _ w1) (eq_true c1)) ?_
  obtain ⟨k1,hm,hk1⟩:=Yn hm
  obtain ⟨M1,hM1⟩:∃ M:AM.St→Prop,M = (fun s'=>∃ (s2:σ) (a4:Int) (a5:Int) (hr2:Hp) (hb2:Hp) (h2:Hp),Like s'.tm ((((((List.replicate 83 none).set 0 (some (.yld l gb))).set 2 (some (.iptr [(.isl 3 (a1_.map Ze.enc))] 0))).set 4 (some (aint a4))).set 5 (some (aint a5))).set 6 (some (aint a3)))∧s'.h = h2∧R s2 hr2∧Spl F hr2 hb2∧AM.Own hb2 h2 []∧k1 (s2,a4,a5)):=⟨_,rfl⟩
  refine Xe M1 ?_ ?_
  ·obtain ⟨z1,v1,i1,hm⟩:=hm
   have F1:=ai (wrap_i64 _ w1) (ai (eq_true c1) (ai (eq_true z1) i1))
   refine sg F1 ?_
   refine H.newR [(aint 0),(.val (.int .u8 0)),(aint 0)] rfl (fun b1 h3 H=>?_)
   refine sg (ai F1 (H.p 0 rfl)) ?_
   refine H.stP 0 (Ze.enc v1) rfl rfl rfl rfl (Nat.le_of_ble_eq_true rfl) rfl (fun h4 H=>?_)
   refine sg (ai F1 (H.p 0 rfl)) ?_
   obtain ⟨k2,hm,hk2⟩:=Yn hm
   obtain ⟨M2,hM2⟩:∃ M:AM.St→Prop,M = (fun s'=>∃ (s3:σ) (a6:Bool) (hr3:Hp) (hb3:Hp) (h5:Hp),Like s'.tm ((((((((List.replicate 83 none).set 0 (some (.yld l gb))).set 2 (some (.iptr [(.isl 3 (a1_.map Ze.enc))] 0))).set 4 (some (aint a1))).set 5 (some (aint a2))).set 6 (some (aint a3))).set 7 (some (.optr b1 3 0 0))).set 8 (some (Zk a6)))∧s'.h = h5∧R s3 hr3∧Spl F hr3 hb3∧AM.Own hb3 h5 [⟨(.optr b1 3 0 0),true,3,[(Ze.enc v1)],some (43,3)⟩]∧k2 (s3,a6)):=⟨_,rfl⟩
   refine Xe M2 ?_ ?_
   ·refine sg (ai F1 (H.p 0 rfl)) ?_
    refine gfk' (fun c2=>?_) fun c2=>?_
    ·replace hm:=ifp hm c2
     refine sg (ai F1 (ai (eq_true c2) (H.p 0 rfl))) ?_
     replace H:=H.pm [0]
     subst hM2
     exact ⟨s1,true,hr1,hb1,h4,lkt,rfl,hR,hS,H,hm⟩
    replace hm:=ifn hm c2
    refine sg (ai F1 (ai (eq_false c2) (H.p 0 rfl))) ?_
    replace H:=H.pm [0]
    subst hM2
    exact ⟨s1,decide (v1.Ch = 108),hr1,hb1,h4,lkt,rfl,hR,hS,H,hm⟩
   subst hM2
   rintro ⟨tm,h5⟩ ⟨s3,a6,hr3,hb3,_,hL,rfl,hR,hS,H,hm⟩
   dsimp only at hL H
   obtain ⟨D,rfl⟩:=hL.fill 0
   replace hm:=hk2 _ hm
   have F2:=ai (wrap_i64 _ w1) (ai (eq_true c1) (ai (eq_true z1) i1))
   refine sg (ai F2 (H.p 0 rfl)) ?_
   refine fkc (fun c3=>?_) fun c3=>?_
   ·replace hm:=ifp hm c3
    obtain ⟨w2,hm⟩:=hm
    refine sg (ai F2 (ai (eq_true c3) (ai (wrap_i64 _ w2) (H.p 0 rfl)))) ?_
    obtain ⟨k3,hm,hk3⟩:=Yn hm
    obtain ⟨M3,hM3⟩:∃ M:AM.St→Prop,M = (fun s'=>∃ (s4:σ) (hr4:Hp) (hb4:Hp) (h6:Hp),Like s'.tm (((((((List.replicate 83 none).set 0 (some (.yld l gb))).set 2 (some (.iptr [(.isl 3 (a1_.map Ze.enc))] 0))).set 4 (some (aint (a1+1)))).set 5 (some (aint a2))).set 6 (some (aint a3))).set 8 (some (Zk a6)))∧s'.h = h6∧R s4 hr4∧Spl F hr4 hb4∧AM.Own hb4 h6 []∧k3 s4):=⟨_,rfl⟩
    refine Xe M3 ?_ ?_
    ·refine sg (ai F2 (ai (eq_true c3) (ai (wrap_i64 _ w2) (H.p 0 rfl)))) ?_
     refine gfk (fun c4=>?_) fun c4=>?_
     ·replace hm:=ifp hm c4
      have F3:=ai F2 (ai (eq_true c3) (ai (wrap_i64 _ w2) (eq_true c4)))
      refine sg (ai F3 (H.p 0 rfl)) ?_
      refine gfk (fun c5=>?_) fun c5=>?_
      ·replace hm:=ifn hm c5
       refine sg (ai F3 (ai (eq_false c5) (H.p 0 rfl))) ?_
       refine yields_of hY hR hS H (a3,v1) rfl hm (fun r1 s5 hr5 hb5 h7 hR hS H hm=>?_)
       refine sg (ai F3 (ai (eq_false c5) (H.p 0 rfl))) ?_
       rw [Zw]
       refine ⟨fun c6=>?_,fun c6=>?_⟩
       ·replace hm:=ifp hm c6
        refine sg (ai F3 (ai (eq_false c5) (ai c6 (H.p 0 rfl)))) ?_
        exact retQ_it (.inl rfl) rfl H.sub ⟨⟨_,rfl⟩,s5,hr5,hR,hS,hm⟩
       replace hm:=ifn hm (by rw [c6]; exact Bool.false_ne_true)
       refine sg (ai F3 (ai (eq_false c5) (ai c6 (H.p 0 rfl)))) ?_
       replace H:=H.pm []
       subst hM3
       exact ⟨s5,hr5,hb5,h7,lkt,rfl,hR,hS,H,hm⟩
      replace c5:=Decidable.not_not.1 c5
      replace hm:=ifp hm c5
      refine sg (ai F3 (ai (eq_true c5) (H.p 0 rfl))) ?_
      replace H:=H.pm []
      subst hM3
      exact ⟨s3,hr3,hb3,h5,lkt,rfl,hR,hS,H,hm⟩
     replace hm:=ifn hm c4
     have F4:=ai F2 (ai (eq_true c3) (ai (wrap_i64 _ w2) (eq_false c4)))
     refine sg (ai F4 (H.p 0 rfl)) ?_
     replace H:=H.pm []
     subst hM3
     exact ⟨s3,hr3,hb3,h5,lkt,rfl,hR,hS,H,hm⟩
    subst hM3
    rintro ⟨tm,h6⟩ ⟨s4,hr4,hb4,_,hL,rfl,hR,hS,H,hm⟩
    dsimp only at hL H
    obtain ⟨D,rfl⟩:=hL.fill 0
    replace hm:=hk3 _ hm
    have F5:=ai (wrap_i64 _ w1) (ai (eq_true c1) (ai (eq_true z1) (ai i1 (ai (eq_true c3) (wrap_i64 _ w2)))))
    refine sg F5 ?_
    obtain ⟨k4,hm,hk4⟩:=Yn hm
    obtain ⟨M4,hM4⟩:∃ M:AM.St→Prop,M = (fun s'=>∃ (s6:σ) (a7:Bool) (hr6:Hp) (hb6:Hp) (h8:Hp),Like s'.tm (((((((List.replicate 83 none).set 0 (some (.yld l gb))).set 2 (some (.iptr [(.isl 3 (a1_.map Ze.enc))] 0))).set 4 (some (aint (a1+1)))).set 5 (some (aint a2))).set 6 (some (aint a3))).set 53 (some (Zk a7)))∧s'.h = h8∧R s6 hr6∧Spl F hr6 hb6∧AM.Own hb6 h8 []∧k4 (s6,a7)):=⟨_,rfl⟩
    refine Xe M4 ?_ ?_
    ·refine sg F5 ?_
     refine gfk' (fun c7=>?_) fun c7=>?_
     ·replace hm:=ifp hm c7
      refine sg (ai F5 (eq_true c7)) ?_
      replace H:=H.pm []
      subst hM4
      exact ⟨s4,true,hr4,hb4,h6,lkt,rfl,hR,hS,H,hm⟩
     replace hm:=ifn hm c7
     refine sg (ai F5 (eq_false c7)) ?_
     replace H:=H.pm []
     subst hM4
     exact ⟨s4,a6,hr4,hb4,h6,lkt,rfl,hR,hS,H,hm⟩
    subst hM4
    rintro ⟨tm,h8⟩ ⟨s6,a7,hr6,hb6,_,hL,rfl,hR,hS,H,hm⟩
    dsimp only at hL H
    obtain ⟨D,rfl⟩:=hL.fill 0
    replace hm:=hk4 _ hm
    have F6:=ai (wrap_i64 _ w1) (ai (eq_true c1) (ai (eq_true z1) (ai i1 (ai (eq_true c3) (wrap_i64 _ w2)))))
    refine sg F6 ?_
    rw [Zw]
    refine ⟨fun c8=>?_,fun c8=>?_⟩
    ·replace hm:=ifp hm c8
     obtain ⟨w3,hm⟩:=hm
     refine sg (ai F6 (ai c8 (wrap_i64 _ w3))) ?_
     replace H:=H.pm []
     subst hM1
     exact ⟨s6,a1+1,a2+1,hr6,hb6,h8,lkt,rfl,hR,hS,H,hm⟩
    replace hm:=ifn hm (by rw [c8]; exact Bool.false_ne_true)
    refine sg (ai F6 c8) ?_
    replace H:=H.pm []
    subst hM1
    exact ⟨s6,a1+1,a2,hr6,hb6,h8,lkt,rfl,hR,hS,H,hm⟩
   replace hm:=ifn hm c3
   refine sg (ai F2 (ai (eq_false c3) (H.p 0 rfl))) ?_
   refine fkc (fun c9=>?_) fun c9=>?_
   ·replace hm:=ifp hm c9
    obtain ⟨w4,hm⟩:=hm
    have F7:=ai F2 (ai (eq_false c3) (ai (eq_true c9) (wrap_i64 _ w4)))
    refine sg (ai F7 (H.p 0 rfl)) ?_
    refine fkc (fun c10=>?_) fun c10=>?_
    ·replace hm:=ifp hm c10
     refine sg (ai F7 (ai (eq_true c10) (H.p 0 rfl))) ?_
     exact retQ_it (.inl rfl) rfl H.sub ⟨⟨_,rfl⟩,s3,hr3,hR,hS,hm⟩
    replace hm:=ifn hm c10
    refine sg (ai F7 (ai (eq_false c10) (H.p 0 rfl))) ?_
    refine fkc (fun c11=>?_) fun c11=>?_
    ·replace hm:=ifp hm c11
     obtain ⟨w5,hm⟩:=hm
     have F8:=ai F7 (ai (eq_false c10) (ai (eq_true c11) (wrap_i64 _ w5)))
     refine sg (ai F8 (H.p 0 rfl)) ?_
     replace H:=H.pm []
     subst hM1
     exact ⟨s3,a1 - 1,a2 - 1,hr3,hb3,h5,lkt,rfl,hR,hS,H,hm⟩
    replace hm:=ifn hm c11
    refine sg (ai F7 (ai (eq_false c10) (ai (eq_false c11) (H.p 0 rfl)))) ?_
    refine yields_of hY hR hS H (a3,v1) rfl hm (fun r2 s7 hr7 hb7 h9 hR hS H hm=>?_)
    refine sg (ai F7 (ai (eq_false c10) (ai (eq_false c11) (H.p 0 rfl)))) ?_
    rw [Zw]
    refine ⟨fun c12=>?_,fun c12=>?_⟩
    ·replace hm:=ifp hm c12
     have F9:=ai F7 (ai (eq_false c10) (ai (eq_false c11) c12))
     refine sg (ai F9 (H.p 0 rfl)) ?_
     exact retQ_it (.inl rfl) rfl H.sub ⟨⟨_,rfl⟩,s7,hr7,hR,hS,hm⟩
    replace hm:=ifn hm (by rw [c12]; exact Bool.false_ne_true)
    have F10:=ai F7 (ai (eq_false c10) (ai (eq_false c11) c12))
    refine sg (ai F10 (H.p 0 rfl)) ?_
    replace H:=H.pm []
    subst hM1
    exact ⟨s7,a1 - 1,a2,hr7,hb7,h9,lkt,rfl,hR,hS,H,hm⟩
   replace hm:=ifn hm c9
   refine sg (ai F2 (ai (eq_false c3) (ai (eq_false c9) (H.p 0 rfl)))) ?_
   refine gfk (fun c13=>?_) fun c13=>?_
   ·replace hm:=ifp hm c13
    have F11:=ai F2 (ai (eq_false c3) (ai (eq_false c9) (eq_true c13)))
    refine sg (ai F11 (H.p 0 rfl)) ?_
    refine yields_of hY hR hS H (a3,v1) rfl hm (fun r3 s8 hr8 hb8 h10 hR hS H hm=>?_)
    refine sg (ai F11 (H.p 0 rfl)) ?_
    rw [Zw]
    refine ⟨fun c14=>?_,fun c14=>?_⟩
    ·replace hm:=ifp hm c14
     refine sg (ai F11 (ai c14 (H.p 0 rfl))) ?_
     exact retQ_it (.inl rfl) rfl H.sub ⟨⟨_,rfl⟩,s8,hr8,hR,hS,hm⟩
    replace hm:=ifn hm (by rw [c14]; exact Bool.false_ne_true)
    refine sg (ai F11 (ai c14 (H.p 0 rfl))) ?_
    replace H:=H.pm []
    subst hM1
    exact ⟨s8,a1,a2,hr8,hb8,h10,lkt,rfl,hR,hS,H,hm⟩
   replace hm:=ifn hm c13
   have F12:=ai F2 (ai (eq_false c3) (ai (eq_false c9) (eq_false c13)))
   refine sg (ai F12 (H.p 0 rfl)) ?_
   replace H:=H.pm []
   subst hM1
   exact ⟨s3,a1,a2,hr3,hb3,h5,lkt,rfl,hR,hS,H,hm⟩
  subst hM1
  rintro ⟨tm,h2⟩ ⟨s2,a4,a5,hr2,hb2,_,hL,rfl,hR,hS,H,hm⟩
  dsimp only at hL H
  obtain ⟨D,rfl⟩:=hL.fill 0
  replace hm:=hk1 _ hm
  obtain ⟨w6,hm⟩:=hm
  refine sg (ai (wrap_i64 _ w1) (ai (eq_true c1) (wrap_i64 _ w6))) ?_
  replace H:=H.pm []
  exact ⟨⟨(s2,a4,a5,a3+1),hr2,hb2,h2⟩,hm.2,⟨hm.1,hR,hS,H⟩,rtw⟩
 replace hm:=ifn hm c1
 refine sg (ai (wrap_i64 _ w1) (eq_false c1)) ?_
 exact retQ_it (.inr rfl) rfl H.sub ⟨⟨_,rfl⟩,s1,hr1,hR,hS,hm⟩
end Go.Proofs.YtpkhmfedaaoalaaGreatDoor
