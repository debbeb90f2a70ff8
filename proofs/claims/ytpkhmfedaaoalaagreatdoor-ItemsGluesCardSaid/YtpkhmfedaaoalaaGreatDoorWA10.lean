/- ItemsGlues: a part of its proof (packed by a program). -/
import Derived.Test.YtpkhmfedaaoalaaGreatDoorSqz
import Derived.Test.YtpkhmfedaaoalaaGreatDoorHkf
import Derived.Test.YtpkhmfedaaoalaaGreatDoorWA0
import Derived.Test.YtpkhmfedaaoalaaGreatDoorWA3
import Derived.Test.YtpkhmfedaaoalaaGreatDoorWA4
import Derived.Test.YtpkhmfedaaoalaaGreatDoorWA9
set_option linter.all false
namespace Go.Proofs.YtpkhmfedaaoalaaGreatDoor
open Go Go.Proofs.YtpkhmfedaaoalaaGreatDoor.AM
set_option maxRecDepth 100000
set_option maxHeartbeats 4000000
abbrev n_norm_Of:Nat:=81
noncomputable def ac_norm_Of:AC:=
 (.seq (.reg [oO 2 (.assign (.const (.slice none 0 0))),oO 3 (.assign (oC 0))]) (.seq (.seq (.reg [oM 5 0,oO 6 (oK 41 #[(oT 5)] #[51]),oA 4 6]) (.seq (.reg [oM 7 4,oO 8 (.binOp .neq 30 (oT 7) (oC 0) 30)]) (.cond (oT 8) (.seq (.reg [oM 9 4,oO 2 (.assign (.const (.slice none 0 0))),oA 3 9]) .ret) .skip))) (.seq (.reg [oM 10 0,oO 11 (oK 125 #[(oT 10)] #[51]),oM 12 0,oN 13 12 51,oO 14 (oK 124 #[(oT 11),(oC 0),(oT 13)] #[51,3,3]),oA 2 14,oO 3 (.assign (oC 0))]) .ret)))
theorem enter_norm_Of:EN ac_norm_Of [(ResultVar.tmp 2),(ResultVar.tmp 3)] 15 81:=acE Tryz.func81 (ann:=Yy)
def Zsb.w (a0_:List Za) (Q:((List Za)×Int)→Prop):Prop:=
 Vo.w a0_ (fun r1=>
  if r1 = 0 then
   Zua.w a0_ (fun r2=>
    Y9.w r2 0 (a0_.length:Int) (fun r3=>
     Q (r3,0)))
  else
   Q (([]:List Za),r1))
theorem Zsb.ok {a0_:List Za} {Q:((List Za)×Int)→Prop} (hm:Zsb.w a0_ Q) (h0:Hp):Zo Tryz.prog n_norm_Of [(.isl 4 (a0_.map Za.enc))] h0 (Back h0 (fun r=>.tup [(.isl 4 (r.1.map Za.enc)),(aint r.2)]) Q):=by
 refine enter_norm_Of ?_
 unfold Zsb.w at hm
 have H:=AM.Own.nil h0
 try simp -implicitDefEqProofs (disch:=omega) only [push_cast,seval,ac_norm_Of]
 refine Zn (fun h=>Vo.ok hm h) (fun r1 hm=>?_)
 refine sg0 ?_
 refine fkc (fun c1=>?_) fun c1=>?_
 ·replace hm:=ifn hm c1
  refine sg (eq_false c1) ?_
  exact Zb (.inl rfl) (([]:List Za),r1) _ rfl (Zf.tup (X8.at (Zf.nil _ 4) [] [_])) H.sub hm
 replace c1:=Decidable.not_not.1 c1
 replace hm:=ifp hm c1
 refine sg (eq_true c1) ?_
 refine Zn (fun h=>Zua.ok hm h) (fun r2 hm=>?_)
 refine sg (eq_true c1) ?_
 refine Zn (fun h=>Y9.ok hm h) (fun r3 hm=>?_)
 refine sg (eq_true c1) ?_
 exact Zb (.inl rfl) (r3,0) _ rfl (Zf.refl _ _) H.sub hm
abbrev n_tree_Same_1:Nat:=127
noncomputable def J6a:AC:=
 (.seq (.reg [oO 2 (.box 103 (oT 0)),oO 3 (.box 103 (oT 1)),oO 4 (.assign (.const (.bool false)))]) (.seq (.reg [oF 5 103 2 0,oL 6 5 5,oF 7 103 3 0,oL 8 5 7,oO 9 (.binOp .eql 5 (oT 6) (oT 8) 5),oM 10 9,oG 11 10 true (.fieldAddr 103 (oT 2) 1),oG 12 10 true (.load 9 (oT 11)),oG 13 10 true (.fieldAddr 103 (oT 3) 1),oG 14 10 true (.load 9 (oT 13)),oG 15 10 true (.binOp .eql 9 (oT 12) (oT 14) 9),oO 16 (.pick (oT 10) (oT 15) (.const (.bool false))),oM 17 16,oG 18 17 true (.fieldAddr 103 (oT 2) 3),oG 19 17 true (.load 3 (oT 18)),oG 20 17 true (.fieldAddr 103 (oT 3) 3),oG 21 17 true (.load 3 (oT 20)),oG 22 17 true (.binOp .eql 3 (oT 19) (oT 21) 3),oO 23 (.pick (oT 17) (oT 22) (.const (.bool false))),oA 4 23]) .ret))
theorem enter_tree_Same_1:EN J6a [(ResultVar.tmp 4)] 24 127:=acE Tryz.func127 (ann:=Yy)
def J2.w (a0_:Za) (a1_:Za) (Q:Bool→Prop):Prop:=
 if a0_.Kind = a1_.Kind then
  if a0_.Text = a1_.Text then
   Q (decide (a0_.Size = a1_.Size))
  else
   Q false
 else
  Q false
theorem J2.ok {a0_:Za} {a1_:Za} {Q:Bool→Prop} (hm:J2.w a0_ a1_ Q) (h0:Hp):Zo Tryz.prog n_tree_Same_1 [(.agg (Za.enc a0_)),(.agg (Za.enc a1_))] h0 (Back h0 (fun r=>(Zk r)) Q):=by
 refine enter_tree_Same_1 ?_
 unfold J2.w at hm
 have H:=AM.Own.nil h0
 try simp -implicitDefEqProofs (disch:=omega) only [push_cast,seval,J6a]
 refine H.newR (Za.enc a0_) rfl (fun b1 h1 H=>?_)
 refine sg (H.p 0 rfl) ?_
 refine H.newR (Za.enc a1_) rfl (fun b2 h2 H=>?_)
 refine sg (ai (H.p 0 rfl) (H.p 1 rfl)) ?_
 refine gfk (fun c1=>?_) fun c1=>?_
 ·replace hm:=ifp hm c1
  refine sg (ai (eq_true c1) (ai (H.p 0 rfl) (H.p 1 rfl))) ?_
  refine gfk (fun c2=>?_) fun c2=>?_
  ·replace hm:=ifp hm c2
   refine sg (ai (eq_true c1) (ai (eq_true c2) (ai (H.p 0 rfl) (H.p 1 rfl)))) ?_
   exact Zb (.inl rfl) (decide (a0_.Size = a1_.Size)) _ rfl (Zf.refl _ _) H.sub hm
  replace hm:=ifn hm c2
  refine sg (ai (eq_true c1) (ai (eq_false c2) (ai (H.p 0 rfl) (H.p 1 rfl)))) ?_
  exact Zb (.inl rfl) false _ rfl (Zf.refl _ _) H.sub hm
 replace hm:=ifn hm c1
 refine sg (ai (eq_false c1) (ai (H.p 0 rfl) (H.p 1 rfl))) ?_
 exact Zb (.inl rfl) false _ rfl (Zf.refl _ _) H.sub hm
abbrev X5:Nat:=126
noncomputable def Yw:AC:=
 (.seq (.reg [oO 6 (.assign (.const (.bool false)))]) (.seq (.seq (.reg [oM 10 0,oN 11 10 51,oM 12 1,oN 13 12 51,oO 14 (.binOp .neq 3 (oT 11) (oT 13) 3)]) (.cond (oT 14) (.seq (.reg [oO 6 (.assign (.const (.bool false)))]) .ret) .skip)) (.seq (.seq (.reg [oM 15 0,oN 16 15 51,oO 17 (.move (oC 0))]) (.block 0 (.loop (.seq (.reg [oO 18 (.binOp .lss 3 (oT 17) (oT 16) 3)]) (.seq (.cond (oT 18) .skip (.exit 0)) (.seq (.block 1 (.seq (.reg [oM 19 17,oI 20 51 15 17,oL 21 103 20,oO 8 (.alloc 103),oA 7 19,oS (.store 103 (oT 8) (oT 21))]) (.seq (.reg [oM 22 1,oM 23 7,oI 24 51 22 23,oL 25 103 24,oO 9 (.alloc 103),oS (.store 103 (oT 9) (oT 25))]) (.seq (.reg [oM 26 2,oL 27 103 8,oL 28 103 9,oO 29 (.call (.mk (.value (oT 26)) #[(oT 27),(oT 28)] #[103,103])),oO 30 (.unOp .not 4 (oT 29))]) (.cond (oT 30) (.seq (.reg [oO 6 (.assign (.const (.bool false)))]) .ret) .skip))))) (.reg [oO 31 (.binOp .add 3 (oT 17) (oC 1) 3),oM 17 31]))))))) (.seq (.reg [oO 6 (.assign (.const (.bool true)))]) .ret))))
theorem Xx:EN Yw [(ResultVar.tmp 6)] 32 126:=acE Tryz.func126 (ann:=Yy)
def Zq.w (a0_:List Za) (a1_:List Za) (Q:Bool→Prop):Prop:=
 if (a0_.length:Int) = (a1_.length:Int) then
  X2 (σ:=Int) (fun a1 next1=>
   if a1 < (a0_.length:Int) then
    (0≤a1) ∧
    ∃ v1:Za,a0_[a1.toNat]? = some v1 ∧
    ∃ v2:Za,a1_[a1.toNat]? = some v2 ∧
    J2.w v1 v2 (fun r1=>
     if (!r1) = true then
      Q false
     else
      (I64 (a1+1)) ∧
      next1 (a1+1))
   else
    Q true) 0
 else
  Q false
theorem Zq.ok {a0_:List Za} {a1_:List Za} {Q:Bool→Prop} (hm:Zq.w a0_ a1_ Q) (h0:Hp):Zo Tryz.prog X5 [(.isl 4 (a0_.map Za.enc)),(.isl 4 (a1_.map Za.enc)),(.fn (.func 127) [] [])] h0 (Back h0 (fun r=>(Zk r)) Q):=by
 refine Xx ?_
 unfold Zq.w at hm
 have H:=AM.Own.nil h0
 try simp -implicitDefEqProofs (disch:=omega) only [push_cast,seval,Yw]
 refine fkc (fun c1=>?_) fun c1=>?_
 ·replace hm:=ifn hm c1
  refine sg (eq_false c1) ?_
  exact Zb (.inl rfl) false _ rfl (Zf.refl _ _) H.sub hm
 replace c1:=Decidable.not_not.1 c1
 replace hm:=ifp hm c1
 refine sg (eq_true c1) ?_
 obtain ⟨inv1,mu1,hi1,hs1⟩:=hm
 replace H:=H.pm []
 refine Z7 (σ:=Int×Hp) (fun ⟨a1,h1⟩=>⟨(((((List.replicate 32 AV.any).set 1 (.isl 4 (a1_.map Za.enc))).set 2 (.fn (.func 127) [] [])).set 15 (.isl 4 (a0_.map Za.enc))).set 16 (aint (a0_.length:Int))).set 17 (aint a1),h1⟩) (fun ⟨a1,h1⟩=>inv1 a1∧AM.Own h0 h1 []) (fun ⟨a1,h1⟩=>mu1 a1) ⟨0,h0⟩ (rtw) ⟨hi1,H⟩ ?_
 rintro ⟨a1,h1⟩ ⟨hi1,H⟩
 have hm:=hs1 _ hi1
 dsimp only at hm H ⊢
 refine sg (eq_true c1) ?_
 refine fkc (fun c2=>?_) fun c2=>?_
 ·replace hm:=ifp hm c2
  obtain ⟨z1,v1,i1,hm⟩:=hm
  refine sg (ai (eq_true c1) (ai (eq_true c2) (ai (eq_true z1) i1))) ?_
  refine H.newR [(.val (.int .u8 0)),(astr (ByteArray.mk #[])),(aint 0),(aint 0)] rfl (fun b1 h2 H=>?_)
  refine sg (ai (eq_true c1) (ai (eq_true c2) (ai (eq_true z1) (ai i1 (H.p 0 rfl))))) ?_
  refine H.stP 0 (Za.enc v1) rfl rfl rfl rfl (Nat.le_of_ble_eq_true rfl) rfl (fun h3 H=>?_)
  obtain ⟨v2,i2,hm⟩:=hm
  have F1:=ai (eq_true c1) (ai (eq_true c2) (ai (eq_true z1) (ai i1 i2)))
  refine sg (ai F1 (H.p 0 rfl)) ?_
  refine H.newR [(.val (.int .u8 0)),(astr (ByteArray.mk #[])),(aint 0),(aint 0)] rfl (fun b2 h4 H=>?_)
  refine sg (ai F1 (ai (H.p 0 rfl) (H.p 1 rfl))) ?_
  refine H.stP 1 (Za.enc v2) rfl rfl rfl rfl (Nat.le_of_ble_eq_true rfl) rfl (fun h5 H=>?_)
  refine sg (ai F1 (ai (H.p 0 rfl) (H.p 1 rfl))) ?_
  refine Zn (fun h=>J2.ok hm h) (fun r1 hm=>?_)
  refine sg (ai F1 (ai (H.p 0 rfl) (H.p 1 rfl))) ?_
  rw [Zw]
  refine ⟨fun c3=>?_,fun c3=>?_⟩
  ·replace hm:=ifp hm c3
   refine sg (ai F1 (ai c3 (ai (H.p 0 rfl) (H.p 1 rfl)))) ?_
   exact Zb (.inl rfl) false _ rfl (Zf.refl _ _) H.sub hm
  replace hm:=ifn hm (by rw [c3]; exact Bool.false_ne_true)
  obtain ⟨w1,hm⟩:=hm
  refine sg (ai F1 (ai c3 (ai (wrap_i64 _ w1) (ai (H.p 0 rfl) (H.p 1 rfl))))) ?_
  replace H:=H.pm []
  exact ⟨⟨a1+1,h5⟩,hm.2,⟨hm.1,H⟩,rtw⟩
 replace hm:=ifn hm c2
 refine sg (ai (eq_true c1) (eq_false c2)) ?_
 exact Zb (.inl rfl) true _ rfl (Zf.refl _ _) H.sub hm
abbrev n_tree_Same:Nat:=82
noncomputable def ac_tree_Same:AC:=
 (.seq (.reg [oO 4 (.assign (.const (.bool false)))]) (.seq (.reg [oM 5 0,oM 6 1,oO 7 (oK 126 #[(oT 5),(oT 6),(.func 127)] #[51,51,171]),oA 4 7]) .ret))
theorem enter_tree_Same:EN ac_tree_Same [(ResultVar.tmp 4)] 8 82:=acE Tryz.func82 (ann:=Yy)
def Zza.w (a0_:List Za) (a1_:List Za) (Q:Bool→Prop):Prop:=
 Zq.w a0_ a1_ (fun r1=>
  Q r1)
theorem Zza.ok {a0_:List Za} {a1_:List Za} {Q:Bool→Prop} (hm:Zza.w a0_ a1_ Q) (h0:Hp):Zo Tryz.prog n_tree_Same [(.isl 4 (a0_.map Za.enc)),(.isl 4 (a1_.map Za.enc))] h0 (Back h0 (fun r=>(Zk r)) Q):=by
 refine enter_tree_Same ?_
 unfold Zza.w at hm
 have H:=AM.Own.nil h0
 try simp -implicitDefEqProofs (disch:=omega) only [push_cast,seval,ac_tree_Same]
 refine Zn (fun h=>Zq.ok hm h) (fun r1 hm=>?_)
 refine sg0 ?_
 exact Zb (.inl rfl) r1 _ rfl (Zf.refl _ _) H.sub hm
abbrev n_norm_Is:Nat:=42
noncomputable def ac_norm_Is:AC:=
 (.seq (.reg [oO 2 (.assign (.const (.bool false)))]) (.seq (.reg [oM 6 0,oO 7 (oK 81 #[(oT 6)] #[51]),oM 5 7,oO 8 (.extract (oT 5) 0),oO 9 (.extract (oT 5) 1),oA 3 8,oA 4 9]) (.seq (.reg [oM 10 4,oO 11 (.binOp .eql 30 (oT 10) (oC 0) 30),oM 12 11,oG 13 12 true (.move (oT 0)),oG 14 12 true (.move (oT 3)),oG 15 12 true (oK 82 #[(oT 13),(oT 14)] #[51,51]),oO 16 (.pick (oT 12) (oT 15) (.const (.bool false))),oA 2 16]) .ret)))
theorem enter_norm_Is:EN ac_norm_Is [(ResultVar.tmp 2)] 17 42:=acE Tryz.func42 (ann:=Yy)
def Vra.w (a0_:List Za) (Q:Bool→Prop):Prop:=
 Zsb.w a0_ (fun r1=>
  if r1.2 = 0 then
   Zza.w a0_ r1.1 (fun r2=>
    Q r2)
  else
   Q false)
theorem Vra.ok {a0_:List Za} {Q:Bool→Prop} (hm:Vra.w a0_ Q) (h0:Hp):Zo Tryz.prog n_norm_Is [(.isl 4 (a0_.map Za.enc))] h0 (Back h0 (fun r=>(Zk r)) Q):=by
 refine enter_norm_Is ?_
 unfold Vra.w at hm
 have H:=AM.Own.nil h0
 try simp -implicitDefEqProofs (disch:=omega) only [push_cast,seval,ac_norm_Is]
 refine Zn (fun h=>Zsb.ok hm h) (fun r1 hm=>?_)
 refine sg0 ?_
 refine gfk (fun c1=>?_) fun c1=>?_
 ·replace hm:=ifp hm c1
  refine sg (eq_true c1) ?_
  refine Zn (fun h=>Zza.ok hm h) (fun r2 hm=>?_)
  refine sg (eq_true c1) ?_
  exact Zb (.inl rfl) r2 _ rfl (Zf.refl _ _) H.sub hm
 replace hm:=ifn hm c1
 refine sg (eq_false c1) ?_
 exact Zb (.inl rfl) false _ rfl (Zf.refl _ _) H.sub hm
abbrev n_flat_Tree:Nat:=20
noncomputable def ac_flat_Tree:AC:=
 (.seq (.reg [oO 2 (.assign (.const (.slice none 0 0))),oO 3 (.assign (oC 0))]) (.seq (.reg [oO 4 (.alloc 74)]) (.seq (.seq (.reg [oM 6 0,oO 7 (.makeFunc (Fn.func 39) #[] #[(oT 4)]),oO 8 (oK 38 #[(oT 6),(oT 7)] #[22,54]),oM 9 8,oG 10 9 false (.fieldAddr 74 (oT 4) 1),oG 11 9 false (.load 72 (oT 10)),oG 12 9 false (.call (.mk (.builtin .len) #[(oT 11)] #[72])),oG 13 9 false (.binOp .gtr 3 (oT 12) (oC 0) 3),oO 14 (.pick (oT 9) (.const (.bool true)) (oT 13))]) (.cond (oT 14) (.seq (.reg [oO 2 (.assign (.const (.slice none 0 0))),oO 3 (.assign (oC 2))]) .ret) .skip)) (.seq (.seq (.reg [oF 15 74 4 0,oL 16 51 15,oO 17 (oK 41 #[(oT 16)] #[51]),oA 5 17]) (.block 0 (.seq (.reg [oM 19 5,oO 20 (.binOp .neq 30 (oT 19) (oC 0) 30),oA 18 20]) (.cond (oT 18) (.seq (.reg [oM 21 5,oO 2 (.assign (.const (.slice none 0 0))),oA 3 21]) .ret) (.seq (.reg [oF 23 74 4 0,oL 24 51 23,oO 25 (oK 42 #[(oT 24)] #[51]),oO 26 (.unOp .not 4 (oT 25)),oA 22 26]) (.cond (oT 22) (.seq (.reg [oO 2 (.assign (.const (.slice none 0 0))),oO 3 (.assign (oC 2))]) .ret) .skip)))))) (.seq (.reg [oF 27 74 4 0,oL 28 51 27,oA 2 28,oO 3 (.assign (oC 0))]) .ret)))))
theorem enter_flat_Tree:EN ac_flat_Tree [(ResultVar.tmp 2),(ResultVar.tmp 3)] 29 20:=acE Tryz.func20 (ann:=Yy)
def Jo.w (a0_:List Ze) (Q:((List Za)×Int)→Prop):Prop:=
 Zx.w a0_ ([]:List Za) ([]:List Zv) false (fun r1 v1 v2 v3=>
  if r1 = true then
   Q (([]:List Za),2)
  else
   if 0 < (v2.length:Int) then
    Q (([]:List Za),2)
   else
    Vo.w v1 (fun r2=>
     if r2 = 0 then
      Vra.w v1 (fun r3=>
       if (!r3) = true then
        Q (([]:List Za),2)
       else
        Q (v1,0))
     else
      Q (([]:List Za),r2)))
theorem Jo.ok {a0_:List Ze} {Q:((List Za)×Int)→Prop} (hm:Jo.w a0_ Q) (h0:Hp):Zo Tryz.prog n_flat_Tree [(.isl 3 (a0_.map Ze.enc))] h0 (Back h0 (fun r=>.tup [(.isl 4 (r.1.map Za.enc)),(aint r.2)]) Q):=by
 refine enter_flat_Tree ?_
 unfold Jo.w at hm
 have H:=AM.Own.nil h0
 try simp -implicitDefEqProofs (disch:=omega) only [push_cast,seval,ac_flat_Tree]
 refine H.newR [anil,anil,(Zk false)] rfl (fun b1 h1 H=>?_)
 refine sg (H.p 0 rfl) ?_
 replace H:=H.addNil 4 (some (103,0))
 replace H:=H.addNil 4 (some (110,0))
 obtain ⟨h2,HF1,hB1⟩:=H.frame [1,2,0] (by decide)
 refine Z1 (Zx.ok hm HF1) ?_
 rintro _ h3 ⟨r1,v1,v2,v3,x1,x2,rfl,H',hm⟩
 replace H:=hB1 _ _ rfl H'
 refine sg (H.p 0 rfl) ?_
 rw [Xh]
 refine ⟨fun c1=>?_,fun c1=>?_⟩
 ·replace hm:=ifp hm c1
  refine sg (ai c1 (H.p 0 rfl)) ?_
  exact Zb (.inl rfl) (([]:List Za),2) _ rfl (Zf.tup (X8.at (Zf.nil _ 4) [] [_])) H.sub hm
 replace hm:=ifn hm (by rw [c1]; exact Bool.false_ne_true)
 refine sg (ai c1 (ai (H.lenE 2 rfl tab_72) (H.p 0 rfl))) ?_
 refine fkc (fun c2=>?_) fun c2=>?_
 ·replace hm:=ifp hm c2
  refine sg (ai c1 (ai (eq_true c2) (H.p 0 rfl))) ?_
  exact Zb (.inl rfl) (([]:List Za),2) _ rfl (Zf.tup (X8.at (Zf.nil _ 4) [] [_])) H.sub hm
 replace hm:=ifn hm c2
 refine sg (ai c1 (ai (eq_false c2) (H.p 0 rfl))) ?_
 refine Kk (fun h=>Vo.ok hm h) (fun _=>rfl) ⟨H.lent 1 rfl,trivial⟩ (fun r2 hm=>?_)
 refine sg (ai c1 (ai (eq_false c2) (H.p 0 rfl))) ?_
 refine fkc (fun c3=>?_) fun c3=>?_
 ·replace hm:=ifn hm c3
  refine sg (ai c1 (ai (eq_false c2) (ai (eq_false c3) (H.p 0 rfl)))) ?_
  exact Zb (.inl rfl) (([]:List Za),r2) _ rfl (Zf.tup (X8.at (Zf.nil _ 4) [] [_])) H.sub hm
 replace c3:=Decidable.not_not.1 c3
 replace hm:=ifp hm c3
 refine sg (ai c1 (ai (eq_false c2) (ai (eq_true c3) (H.p 0 rfl)))) ?_
 refine Kk (fun h=>Vra.ok hm h) (fun _=>rfl) ⟨H.lent 1 rfl,trivial⟩ (fun r3 hm=>?_)
 refine sg (ai c1 (ai (eq_false c2) (ai (eq_true c3) (H.p 0 rfl)))) ?_
 rw [Zw]
 refine ⟨fun c4=>?_,fun c4=>?_⟩
 ·replace hm:=ifp hm c4
  refine sg (ai c1 (ai (eq_false c2) (ai (eq_true c3) (ai c4 (H.p 0 rfl))))) ?_
  exact Zb (.inl rfl) (([]:List Za),2) _ rfl (Zf.tup (X8.at (Zf.nil _ 4) [] [_])) H.sub hm
 replace hm:=ifn hm (by rw [c4]; exact Bool.false_ne_true)
 refine sg (ai c1 (ai (eq_false c2) (ai (eq_true c3) (ai c4 (H.p 0 rfl))))) ?_
 obtain ⟨h4,s1,H⟩:=H.freeze 1 rfl
 exact Zb (.inl rfl) (v1,0) _ rfl (Zf.tup (X8.at s1 [] [_])) H.sub hm
abbrev n_metric_whole:Nat:=49
noncomputable def Kma:AC:=
 (.seq (.reg [oO 1 (.box 26 (oT 0)),oO 2 (.assign (.const (.bool false)))]) (.seq (.seq (.reg [oF 5 26 1 0,oL 6 23 5,oO 7 (.move (oC 0))]) (.block 0 (.loop (.seq (.reg [oO 8 (.binOp .lss 3 (oT 7) (oC 128) 3)]) (.seq (.cond (oT 8) .skip (.exit 0)) (.seq (.block 1 (.seq (.reg [oM 9 7,oO 10 (.index 23 (oT 6) (oT 7)),oA 3 9,oA 4 10]) (.seq (.reg [oM 11 3,oO 12 (.convert 3 5 (oT 11)),oO 13 (oK 95 #[(oT 12)] #[5]),oM 14 4,oO 15 (.binOp .gtr 3 (oT 14) (oC 0) 3),oO 16 (.binOp .neq 4 (oT 13) (oT 15) 4),oM 17 16,oG 18 17 false (.move (oT 4)),oG 19 17 false (.binOp .lss 3 (oT 18) (oC 0) 3),oO 20 (.pick (oT 17) (.const (.bool true)) (oT 19)),oM 21 20,oG 22 21 false (.move (oT 4)),oG 23 21 false (.binOp .gtr 3 (oT 22) (oC 2000) 3),oO 24 (.pick (oT 21) (.const (.bool true)) (oT 23))]) (.cond (oT 24) (.seq (.reg [oO 2 (.assign (.const (.bool false)))]) .ret) .skip)))) (.reg [oO 25 (.binOp .add 3 (oT 7) (oC 1) 3),oM 7 25]))))))) (.seq (.reg [oO 2 (.assign (.const (.bool true)))]) .ret)))
theorem Xab:EN Kma [(ResultVar.tmp 2)] 26 49:=acE Tryz.func49 (ann:=Yy)
def Ve.w (a0_:Zg) (Q:Bool→Prop):Prop:=
 (a0_.Widths.length = 128) ∧
 X2 (σ:=Int) (fun a1 next1=>
  if a1 < 128 then
   (0≤a1) ∧
   (a1.toNat < 128) ∧
   ∃ v1:Int,a0_.Widths[a1.toNat]? = some v1 ∧
   Zya.w (IntKind.u8.wrap (a1)) (fun r1=>
    if (!(r1 == decide (0 < v1))) = true then
     Q false
    else
     if v1 < 0 then
      Q false
     else
      if 2000 < v1 then
       Q false
      else
       (I64 (a1+1)) ∧
       next1 (a1+1))
  else
   Q true) 0
theorem Ve.ok {a0_:Zg} {Q:Bool→Prop} (hm:Ve.w a0_ Q) (h0:Hp):Zo Tryz.prog n_metric_whole [(.agg (Zg.enc a0_))] h0 (Back h0 (fun r=>(Zk r)) Q):=by
 refine Xab ?_
 unfold Ve.w at hm
 have H:=AM.Own.nil h0
 try simp -implicitDefEqProofs (disch:=omega) only [push_cast,seval,Kma]
 obtain ⟨z1,hm⟩:=hm
 have fa1g0:∀ r:List AV,(List.map (fun v=>AV.val (Value.int IntKind.i64 v)) a0_.Widths++r)[128]? = r[0]?:=fun r=>Zz (k:=0) z1 r
 have fa1t0:∀ r:List AV,(List.map (fun v=>AV.val (Value.int IntKind.i64 v)) a0_.Widths++r).take 129 = List.map (fun v=>AV.val (Value.int IntKind.i64 v)) a0_.Widths++r.take 1:=fun r=>Zr (k:=1) z1 r
 have fa1g1:∀ r:List AV,(List.map (fun v=>AV.val (Value.int IntKind.i64 v)) a0_.Widths++r)[129]? = r[1]?:=fun r=>Zz (k:=1) z1 r
 have fa1t1:∀ r:List AV,(List.map (fun v=>AV.val (Value.int IntKind.i64 v)) a0_.Widths++r).take 130 = List.map (fun v=>AV.val (Value.int IntKind.i64 v)) a0_.Widths++r.take 2:=fun r=>Zr (k:=2) z1 r
 have fa1g2:∀ r:List AV,(List.map (fun v=>AV.val (Value.int IntKind.i64 v)) a0_.Widths++r)[130]? = r[2]?:=fun r=>Zz (k:=2) z1 r
 have fa1t2:∀ r:List AV,(List.map (fun v=>AV.val (Value.int IntKind.i64 v)) a0_.Widths++r).take 131 = List.map (fun v=>AV.val (Value.int IntKind.i64 v)) a0_.Widths++r.take 3:=fun r=>Zr (k:=3) z1 r
 refine ⟨by first | rfl | (rw [Xu z1]; rfl) | (simp [push_cast]; omega),?_⟩
 refine H.newR (List.map (fun v=>AV.val (Value.int IntKind.i64 v)) a0_.Widths++[(aint a0_.Stretch),(aint a0_.Shrink),(.isl 2 (a0_.Pats.map Zj.enc))]) (by first | rfl | (simp only [List.append_assoc,List.cons_append,List.nil_append]; try rfl)) (fun b1 h1 H=>?_)
 have u1:=Xu (f:=(fun v=>AV.val (Value.int IntKind.i64 v))) z1
 have u2:=Vb (f:=(fun v=>AV.val (Value.int IntKind.i64 v))) z1
 refine sg (ai u1 (ai u2 (ai fa1g0 (ai fa1t0 (ai fa1g1 (ai fa1t1 (ai fa1g2 (ai fa1t2 (H.p 0 rfl))))))))) ?_
 obtain ⟨inv1,mu1,hi1,hs1⟩:=hm
 replace H:=H.pm []
 refine Z7 (σ:=Int×Hp) (fun ⟨a1,h2⟩=>⟨((List.replicate 26 AV.any).set 6 (.agg (a0_.Widths.map (fun v=>(aint v))))).set 7 (aint a1),h2⟩) (fun ⟨a1,h2⟩=>inv1 a1∧AM.Own h0 h2 []) (fun ⟨a1,h2⟩=>mu1 a1) ⟨0,h1⟩ (rtw) ⟨hi1,H⟩ ?_
 rintro ⟨a1,h2⟩ ⟨hi1,H⟩
 have hm:=hs1 _ hi1
 dsimp only at hm H ⊢
 refine sg (ai u1 (ai u2 (ai fa1g0 (ai fa1t0 (ai fa1g1 (ai fa1t1 (ai fa1g2 fa1t2))))))) ?_
 refine fkc (fun c1=>?_) fun c1=>?_
 ·replace hm:=ifp hm c1
  obtain ⟨z2,z3,v1,i1,hm⟩:=hm
  have F1:=ai fa1g0 (ai fa1t0 (ai fa1g1 (ai fa1t1 (ai fa1g2 (ai fa1t2 (ai (eq_true c1) (ai (eq_true z2) (ai (eq_true z3) i1))))))))
  try simp -implicitDefEqProofs (disch:=omega) only [push_cast,seval,F1,u1,u2,List.drop_zero,Kca i1,Option.map_some,We]
  refine Zn (fun h=>Zya.ok hm h) (fun r1 hm=>?_)
  try simp -implicitDefEqProofs (disch:=omega) only [push_cast,seval,F1,u1,u2,List.drop_zero,Kca i1,Option.map_some,We]
  rw [Xh]
  refine ⟨fun c2=>?_,fun c2=>?_⟩
  ·replace hm:=ifp hm c2
   try simp -implicitDefEqProofs (disch:=omega) only [push_cast,seval,F1,u1,u2,List.drop_zero,Kca i1,Option.map_some,We,c2]
   exact Zb (.inl rfl) false _ rfl (Zf.refl _ _) H.sub hm
  replace hm:=ifn hm (by rw [c2]; exact Bool.false_ne_true)
  try simp -implicitDefEqProofs (disch:=omega) only [push_cast,seval,F1,u1,u2,List.drop_zero,Kca i1,Option.map_some,We,c2]
  refine gfk' (fun c3=>?_) fun c3=>?_
  ·replace hm:=ifp hm c3
   try simp -implicitDefEqProofs (disch:=omega) only [push_cast,seval,F1,u1,u2,List.drop_zero,Kca i1,Option.map_some,We,c2,eq_true c3]
   exact Zb (.inl rfl) false _ rfl (Zf.refl _ _) H.sub hm
  replace hm:=ifn hm c3
  try simp -implicitDefEqProofs (disch:=omega) only [push_cast,seval,F1,u1,u2,List.drop_zero,Kca i1,Option.map_some,We,c2,eq_false c3]
  refine fkc (fun c4=>?_) fun c4=>?_
  ·replace hm:=ifp hm c4
   try simp -implicitDefEqProofs (disch:=omega) only [push_cast,seval,F1,u1,u2,List.drop_zero,Kca i1,Option.map_some,We,c2,eq_false c3,eq_true c4]
   exact Zb (.inl rfl) false _ rfl (Zf.refl _ _) H.sub hm
  replace hm:=ifn hm c4
  obtain ⟨w1,hm⟩:=hm
  have F2:=ai F1 (ai c2 (ai (eq_false c3) (ai (eq_false c4) (wrap_i64 _ w1))))
  try simp -implicitDefEqProofs (disch:=omega) only [push_cast,seval,F2,u1,u2,List.drop_zero,Kca i1,Option.map_some,We]
  replace H:=H.pm []
  exact ⟨⟨a1+1,h2⟩,hm.2,⟨hm.1,H⟩,rtw⟩
 replace hm:=ifn hm c1
 have F3:=ai fa1g0 (ai fa1t0 (ai fa1g1 (ai fa1t1 (ai fa1g2 (ai fa1t2 (eq_false c1))))))
 refine sg (ai F3 (ai u1 u2)) ?_
 exact Zb (.inl rfl) true _ rfl (Zf.refl _ _) H.sub hm
abbrev n_metric_right_1:Nat:=92
noncomputable def Xta:AC:=
 (.seq (.reg [oO 2 (.assign (.const (.bool false)))]) (.seq (.reg [oM 3 0,oO 4 (.binOp .lss 21 (oT 3) (.const (.int .i32 97)) 21),oM 5 4,oG 6 5 false (.move (oT 0)),oG 7 5 false (.binOp .gtr 21 (oT 6) (.const (.int .i32 122)) 21),oO 8 (.pick (oT 5) (.const (.bool true)) (oT 7)),oA 2 8]) .ret))
theorem Jma:EN Xta [(ResultVar.tmp 2)] 9 92:=acE Tryz.func92 (ann:=Yy)
def Wd.w (a0_:Int) (Q:Bool→Prop):Prop:=
 if a0_ < 97 then
  Q true
 else
  Q (decide (122 < a0_))
theorem Wd.ok {a0_:Int} {Q:Bool→Prop} (hm:Wd.w a0_ Q) (h0:Hp):Zo Tryz.prog n_metric_right_1 [(.val (.int .i32 a0_))] h0 (Back h0 (fun r=>(Zk r)) Q):=by
 refine Jma ?_
 unfold Wd.w at hm
 have H:=AM.Own.nil h0
 try simp -implicitDefEqProofs (disch:=omega) only [push_cast,seval,Xta]
 refine gfk' (fun c1=>?_) fun c1=>?_
 ·replace hm:=ifp hm c1
  refine sg (eq_true c1) ?_
  exact Zb (.inl rfl) true _ rfl (Zf.refl _ _) H.sub hm
 replace hm:=ifn hm c1
 refine sg (eq_false c1) ?_
 exact Zb (.inl rfl) (decide (122 < a0_)) _ rfl (Zf.refl _ _) H.sub hm
def Xm.w (a0_:ByteArray) (a1_:Bool) (Q:Int→Prop):Prop:=
 X2 (σ:=Nat) (fun a1 next1=>
  if a1 < a0_.size then
   Wd.w ((Utf8.decode a0_ a1).1:Int) (fun r1=>
    if (r1 == a1_) = true then
     Q (a1:Int)
    else
     next1 (a1+(Utf8.decode a0_ a1).2))
  else
   Q (-1)) 0
theorem Xm.ok {a0_:ByteArray} {a1_:Bool} {Q:Int→Prop} (hm:Xm.w a0_ a1_ Q) (h0:Hp):Zo Tryz.prog K5 [(astr a0_),(.fn (.func 92) [] []),(Zk a1_)] h0 (Back h0 (fun r=>(aint r)) Q):=by
 refine Vi ?_
 unfold Xm.w at hm
 have H:=AM.Own.nil h0
 try simp -implicitDefEqProofs (disch:=omega) only [push_cast,seval,W8]
 refine range_ofS0 Zmb H a0_ (fun b1 h1 hD H=>?_)
 replace hD:Xf h0 [(b1,.stringIter a0_ 0)]:=hD
 replace H:AM.Own (h0.addR [(b1,.stringIter a0_ 0)]) h1 []:=H
 refine sg0 ?_
 obtain ⟨inv1,mu1,hi1,hs1⟩:=hm
 replace H:=H.pm []
 refine Z7 (σ:=Nat×Hp) (fun ⟨a1,h2⟩=>⟨(((List.replicate 21 AV.any).set 1 (.fn (.func 92) [] [])).set 2 (Zk a1_)).set 10 (.val (.pointer (some ⟨b1,0,none⟩))),h2⟩) (fun ⟨a1,h2⟩=>inv1 a1∧Xf h0 [(b1,.stringIter a0_ a1)]∧AM.Own (h0.addR [(b1,.stringIter a0_ a1)]) h2 []) (fun ⟨a1,h2⟩=>mu1 a1) ⟨0,h1⟩ (rtw) ⟨hi1,hD,H⟩ ?_
 rintro ⟨a1,h2⟩ ⟨hi1,hD,H⟩
 have hm:=hs1 _ hi1
 dsimp only at hm H ⊢
 refine sg0 ?_
 refine nextS_of H hD 0 rfl (fun c1=>?_) (fun c2 h3 hD H=>?_)
 ·replace hm:=ifn hm c1
  refine sg0 ?_
  exact Zb (.inl rfl) (-1) _ rfl (Zf.refl _ _) (Ownr.sub ⟨hD,H⟩) hm
 ·replace hm:=ifp hm c2
  replace hD:Xf h0 [(b1,.stringIter a0_ (a1+(Utf8.decode a0_ a1).2))]:=hD
  replace H:AM.Own (h0.addR [(b1,.stringIter a0_ (a1+(Utf8.decode a0_ a1).2))]) h3 []:=H
  refine sg0 ?_
  refine Zn (fun h=>Wd.ok hm h) (fun r1 hm=>?_)
  refine sg0 ?_
  rw [Zw]
  refine ⟨fun c3=>?_,fun c3=>?_⟩
  ·replace hm:=ifp hm c3
   refine sg c3 ?_
   exact Zb (.inl rfl) (a1:Int) _ rfl (Zf.refl _ _) (Ownr.sub ⟨hD,H⟩) hm
  replace hm:=ifn hm (by rw [c3]; exact Bool.false_ne_true)
  refine sg c3 ?_
  replace H:=H.pm []
  exact ⟨⟨a1+(Utf8.decode a0_ a1).2,h3⟩,hm.2,⟨hm.1,hD,H⟩,rtw⟩
def Xp.w (a0_:ByteArray) (Q:Int→Prop):Prop:=
 Xm.w a0_ true (fun r1=>
  Q r1)
theorem Xp.ok {a0_:ByteArray} {Q:Int→Prop} (hm:Xp.w a0_ Q) (h0:Hp):Zo Tryz.prog K6 [(astr a0_),(.fn (.func 92) [] [])] h0 (Back h0 (fun r=>(aint r)) Q):=by
 refine Vj ?_
 unfold Xp.w at hm
 have H:=AM.Own.nil h0
 try simp -implicitDefEqProofs (disch:=omega) only [push_cast,seval,W9]
 refine Zn (fun h=>Xm.ok hm h) (fun r1 hm=>?_)
 refine sg0 ?_
 exact Zb (.inl rfl) r1 _ rfl (Zf.refl _ _) H.sub hm
def Y5.w (a0_:ByteArray) (Q:Bool→Prop):Prop:=
 Xp.w a0_ (fun r1=>
  Q (decide (0≤r1)))
theorem Y5.ok {a0_:ByteArray} {Q:Bool→Prop} (hm:Y5.w a0_ Q) (h0:Hp):Zo Tryz.prog Vs [(astr a0_),(.fn (.func 92) [] [])] h0 (Back h0 (fun r=>(Zk r)) Q):=by
 refine Wq ?_
 unfold Y5.w at hm
 have H:=AM.Own.nil h0
 try simp -implicitDefEqProofs (disch:=omega) only [push_cast,seval,X9]
 refine Zn (fun h=>Xp.ok hm h) (fun r1 hm=>?_)
 refine sg0 ?_
 exact Zb (.inl rfl) (decide (0≤r1)) _ rfl (Zf.refl _ _) H.sub hm
abbrev n_metric_right_2:Nat:=93
noncomputable def Xsa:AC:=
 (.seq (.reg [oO 2 (.assign (.const (.bool false)))]) (.seq (.reg [oM 3 0,oO 4 (.binOp .lss 21 (oT 3) (.const (.int .i32 48)) 21),oM 5 4,oG 6 5 false (.move (oT 0)),oG 7 5 false (.binOp .gtr 21 (oT 6) (.const (.int .i32 57)) 21),oO 8 (.pick (oT 5) (.const (.bool true)) (oT 7)),oA 2 8]) .ret))
theorem Jla:EN Xsa [(ResultVar.tmp 2)] 9 93:=acE Tryz.func93 (ann:=Yy)
def Wc.w (a0_:Int) (Q:Bool→Prop):Prop:=
 if a0_ < 48 then
  Q true
 else
  Q (decide (57 < a0_))
theorem Wc.ok {a0_:Int} {Q:Bool→Prop} (hm:Wc.w a0_ Q) (h0:Hp):Zo Tryz.prog n_metric_right_2 [(.val (.int .i32 a0_))] h0 (Back h0 (fun r=>(Zk r)) Q):=by
 refine Jla ?_
 unfold Wc.w at hm
 have H:=AM.Own.nil h0
 try simp -implicitDefEqProofs (disch:=omega) only [push_cast,seval,Xsa]
 refine gfk' (fun c1=>?_) fun c1=>?_
 ·replace hm:=ifp hm c1
  refine sg (eq_true c1) ?_
  exact Zb (.inl rfl) true _ rfl (Zf.refl _ _) H.sub hm
 replace hm:=ifn hm c1
 refine sg (eq_false c1) ?_
 exact Zb (.inl rfl) (decide (57 < a0_)) _ rfl (Zf.refl _ _) H.sub hm
def Xl.w (a0_:ByteArray) (a1_:Bool) (Q:Int→Prop):Prop:=
 X2 (σ:=Nat) (fun a1 next1=>
  if a1 < a0_.size then
   Wc.w ((Utf8.decode a0_ a1).1:Int) (fun r1=>
    if (r1 == a1_) = true then
     Q (a1:Int)
    else
     next1 (a1+(Utf8.decode a0_ a1).2))
  else
   Q (-1)) 0
theorem Xl.ok {a0_:ByteArray} {a1_:Bool} {Q:Int→Prop} (hm:Xl.w a0_ a1_ Q) (h0:Hp):Zo Tryz.prog K5 [(astr a0_),(.fn (.func 93) [] []),(Zk a1_)] h0 (Back h0 (fun r=>(aint r)) Q):=by
 refine Vi ?_
 unfold Xl.w at hm
 have H:=AM.Own.nil h0
 try simp -implicitDefEqProofs (disch:=omega) only [push_cast,seval,W8]
 refine range_ofS0 Zmb H a0_ (fun b1 h1 hD H=>?_)
 replace hD:Xf h0 [(b1,.stringIter a0_ 0)]:=hD
 replace H:AM.Own (h0.addR [(b1,.stringIter a0_ 0)]) h1 []:=H
 refine sg0 ?_
 obtain ⟨inv1,mu1,hi1,hs1⟩:=hm
 replace H:=H.pm []
 refine Z7 (σ:=Nat×Hp) (fun ⟨a1,h2⟩=>⟨(((List.replicate 21 AV.any).set 1 (.fn (.func 93) [] [])).set 2 (Zk a1_)).set 10 (.val (.pointer (some ⟨b1,0,none⟩))),h2⟩) (fun ⟨a1,h2⟩=>inv1 a1∧Xf h0 [(b1,.stringIter a0_ a1)]∧AM.Own (h0.addR [(b1,.stringIter a0_ a1)]) h2 []) (fun ⟨a1,h2⟩=>mu1 a1) ⟨0,h1⟩ (rtw) ⟨hi1,hD,H⟩ ?_
 rintro ⟨a1,h2⟩ ⟨hi1,hD,H⟩
 have hm:=hs1 _ hi1
 dsimp only at hm H ⊢
 refine sg0 ?_
 refine nextS_of H hD 0 rfl (fun c1=>?_) (fun c2 h3 hD H=>?_)
 ·replace hm:=ifn hm c1
  refine sg0 ?_
  exact Zb (.inl rfl) (-1) _ rfl (Zf.refl _ _) (Ownr.sub ⟨hD,H⟩) hm
 ·replace hm:=ifp hm c2
  replace hD:Xf h0 [(b1,.stringIter a0_ (a1+(Utf8.decode a0_ a1).2))]:=hD
  replace H:AM.Own (h0.addR [(b1,.stringIter a0_ (a1+(Utf8.decode a0_ a1).2))]) h3 []:=H
  refine sg0 ?_
  refine Zn (fun h=>Wc.ok hm h) (fun r1 hm=>?_)
  refine sg0 ?_
  rw [Zw]
  refine ⟨fun c3=>?_,fun c3=>?_⟩
  ·replace hm:=ifp hm c3
   refine sg c3 ?_
   exact Zb (.inl rfl) (a1:Int) _ rfl (Zf.refl _ _) (Ownr.sub ⟨hD,H⟩) hm
  replace hm:=ifn hm (by rw [c3]; exact Bool.false_ne_true)
  refine sg c3 ?_
  replace H:=H.pm []
  exact ⟨⟨a1+(Utf8.decode a0_ a1).2,h3⟩,hm.2,⟨hm.1,hD,H⟩,rtw⟩
def Xo.w (a0_:ByteArray) (Q:Int→Prop):Prop:=
 Xl.w a0_ true (fun r1=>
  Q r1)
theorem Xo.ok {a0_:ByteArray} {Q:Int→Prop} (hm:Xo.w a0_ Q) (h0:Hp):Zo Tryz.prog K6 [(astr a0_),(.fn (.func 93) [] [])] h0 (Back h0 (fun r=>(aint r)) Q):=by
 refine Vj ?_
 unfold Xo.w at hm
 have H:=AM.Own.nil h0
 try simp -implicitDefEqProofs (disch:=omega) only [push_cast,seval,W9]
 refine Zn (fun h=>Xl.ok hm h) (fun r1 hm=>?_)
 refine sg0 ?_
 exact Zb (.inl rfl) r1 _ rfl (Zf.refl _ _) H.sub hm
def Y4.w (a0_:ByteArray) (Q:Bool→Prop):Prop:=
 Xo.w a0_ (fun r1=>
  Q (decide (0≤r1)))
theorem Y4.ok {a0_:ByteArray} {Q:Bool→Prop} (hm:Y4.w a0_ Q) (h0:Hp):Zo Tryz.prog Vs [(astr a0_),(.fn (.func 93) [] [])] h0 (Back h0 (fun r=>(Zk r)) Q):=by
 refine Wq ?_
 unfold Y4.w at hm
 have H:=AM.Own.nil h0
 try simp -implicitDefEqProofs (disch:=omega) only [push_cast,seval,X9]
 refine Zn (fun h=>Xo.ok hm h) (fun r1 hm=>?_)
 refine sg0 ?_
 exact Zb (.inl rfl) (decide (0≤r1)) _ rfl (Zf.refl _ _) H.sub hm
abbrev n_metric_right:Nat:=48
noncomputable def Kna:AC:=
 (.seq (.reg [oO 1 (.box 47 (oT 0)),oO 2 (.assign (.const (.bool false)))]) (.seq (.reg [oF 6 47 1 0,oL 7 9 6,oO 8 (.call (.mk (.value (.func 91)) #[(oT 7),(.const (.string (ByteArray.mk #[46])))] #[9,9])),oO 9 (.call (.mk (.value (.func 90)) #[(oT 8),(.const (.string (ByteArray.mk #[46])))] #[9,9])),oA 3 9]) (.seq (.reg [oO 4 (.assign (.func 92))]) (.seq (.reg [oO 5 (.assign (.func 93))]) (.seq (.reg [oM 10 3,oO 11 (.binOp .neq 9 (oT 10) (.const (.string (ByteArray.mk #[]))) 9),oM 12 11,oG 13 12 true (.fieldAddr 47 (oT 1) 0),oG 14 12 true (.load 9 (oT 13)),oG 15 12 true (.call (.mk (.builtin .len) #[(oT 14)] #[9])),oG 16 12 true (.binOp .leq 3 (oT 15) (oC 16) 3),oO 17 (.pick (oT 12) (oT 16) (.const (.bool false))),oM 18 17,oG 19 18 true (.move (oT 3)),oG 20 18 true (.move (oT 4)),oG 21 18 true (oK 94 #[(oT 19),(oT 20)] #[9,126]),oG 22 18 true (.unOp .not 4 (oT 21)),oO 23 (.pick (oT 18) (oT 22) (.const (.bool false))),oM 24 23,oG 25 24 true (.fieldAddr 47 (oT 1) 1),oG 26 24 true (.load 9 (oT 25)),oG 27 24 true (.call (.mk (.builtin .len) #[(oT 26)] #[9])),oG 28 24 true (.fieldAddr 47 (oT 1) 0),oG 29 24 true (.load 9 (oT 28)),oG 30 24 true (.call (.mk (.builtin .len) #[(oT 29)] #[9])),oG 31 24 true (.binOp .add 3 (oT 30) (oC 1) 3),oG 32 24 true (.binOp .eql 3 (oT 27) (oT 31) 3),oO 33 (.pick (oT 24) (oT 32) (.const (.bool false))),oM 34 33,oG 35 34 true (.fieldAddr 47 (oT 1) 1),oG 36 34 true (.load 9 (oT 35)),oG 37 34 true (.move (oT 5)),oG 38 34 true (oK 94 #[(oT 36),(oT 37)] #[9,126]),oG 39 34 true (.unOp .not 4 (oT 38)),oO 40 (.pick (oT 34) (oT 39) (.const (.bool false))),oA 2 40]) .ret)))))
theorem Xbb:EN Kna [(ResultVar.tmp 2)] 41 48:=acE Tryz.func48 (ann:=Yy)
def V4.w (a0_:Zj) (Q:Bool→Prop):Prop:=
 Yp.w a0_.Letters (ByteArray.mk #[46]) (fun r1=>
  Z8.w r1 (ByteArray.mk #[46]) (fun r2=>
   if r2 = (ByteArray.mk #[]) then
    Q false
   else
    if (a0_.Letters.size:Int)≤16 then
     Y5.w r2 (fun r3=>
      if (!r3) = true then
       (I64 ((a0_.Letters.size:Int)+1)) ∧
       if (a0_.Figures.size:Int) = (a0_.Letters.size:Int)+1 then
        Y4.w a0_.Figures (fun r4=>
         Q (!r4))
       else
        Q false
      else
       Q false)
    else
     Q false))
theorem V4.ok {a0_:Zj} {Q:Bool→Prop} (hm:V4.w a0_ Q) (h0:Hp):Zo Tryz.prog n_metric_right [(.agg (Zj.enc a0_))] h0 (Back h0 (fun r=>(Zk r)) Q):=by
 refine Xbb ?_
 unfold V4.w at hm
 have H:=AM.Own.nil h0
 try simp -implicitDefEqProofs (disch:=omega) only [push_cast,seval,Kna]
 refine H.newR (Zj.enc a0_) rfl (fun b1 h1 H=>?_)
 refine sg (H.p 0 rfl) ?_
 refine Zn (fun h=>Yp.ok hm h) (fun r1 hm=>?_)
 refine sg (H.p 0 rfl) ?_
 refine Zn (fun h=>Z8.ok hm h) (fun r2 hm=>?_)
 refine sg (H.p 0 rfl) ?_
 refine gfk (fun c1=>?_) fun c1=>?_
 ·replace hm:=ifn hm c1
  refine sg (ai (eq_false c1) (H.p 0 rfl)) ?_
  refine gfk (fun c2=>?_) fun c2=>?_
  ·replace hm:=ifp hm c2
   refine sg (ai (eq_false c1) (ai (eq_true c2) (H.p 0 rfl))) ?_
   refine Zn (fun h=>Y5.ok hm h) (fun r3 hm=>?_)
   refine sg (ai (eq_false c1) (ai (eq_true c2) (H.p 0 rfl))) ?_
   rw [Kh]
   refine ⟨fun c3=>?_,fun c3=>?_⟩
   ·replace hm:=ifp hm c3
    obtain ⟨w1,hm⟩:=hm
    have F1:=ai (eq_false c1) (ai (eq_true c2) (ai c3 (wrap_i64 _ w1)))
    refine sg (ai F1 (H.p 0 rfl)) ?_
    refine gfk (fun c4=>?_) fun c4=>?_
    ·replace hm:=ifp hm c4
     refine sg (ai F1 (ai (eq_true c4) (H.p 0 rfl))) ?_
     refine Zn (fun h=>Y4.ok hm h) (fun r4 hm=>?_)
     refine sg (ai F1 (ai (eq_true c4) (H.p 0 rfl))) ?_
     exact Zb (.inl rfl) (!r4) _ rfl (Zf.refl _ _) H.sub hm
    replace hm:=ifn hm c4
    refine sg (ai F1 (ai (eq_false c4) (H.p 0 rfl))) ?_
    exact Zb (.inl rfl) false _ rfl (Zf.refl _ _) H.sub hm
   replace hm:=ifn hm (by rw [c3]; exact Bool.false_ne_true)
   refine sg (ai (eq_false c1) (ai (eq_true c2) (ai c3 (H.p 0 rfl)))) ?_
   exact Zb (.inl rfl) false _ rfl (Zf.refl _ _) H.sub hm
  replace hm:=ifn hm c2
  refine sg (ai (eq_false c1) (ai (eq_false c2) (H.p 0 rfl))) ?_
  exact Zb (.inl rfl) false _ rfl (Zf.refl _ _) H.sub hm
 replace c1:=Decidable.not_not.1 c1
 replace hm:=ifp hm c1
 refine sg (ai (eq_true c1) (H.p 0 rfl)) ?_
 exact Zb (.inl rfl) false _ rfl (Zf.refl _ _) H.sub hm
abbrev n_metric_Check_1:Nat:=47
noncomputable def Xua:AC:=
 (.seq (.reg [oO 1 (.box 47 (oT 0)),oO 2 (.assign (.const (.bool false)))]) (.seq (.reg [oL 3 47 1,oO 4 (oK 48 #[(oT 3)] #[47]),oO 5 (.unOp .not 4 (oT 4)),oA 2 5]) .ret))
theorem Jna:EN Xua [(ResultVar.tmp 2)] 6 47:=acE Tryz.func47 (ann:=Yy)
def W4.w (a0_:Zj) (Q:Bool→Prop):Prop:=
 V4.w a0_ (fun r1=>
  Q (!r1))
theorem W4.ok {a0_:Zj} {Q:Bool→Prop} (hm:W4.w a0_ Q) (h0:Hp):Zo Tryz.prog n_metric_Check_1 [(.agg (Zj.enc a0_))] h0 (Back h0 (fun r=>(Zk r)) Q):=by
 refine Jna ?_
 unfold W4.w at hm
 have H:=AM.Own.nil h0
 try simp -implicitDefEqProofs (disch:=omega) only [push_cast,seval,Xua]
 refine H.newR (Zj.enc a0_) rfl (fun b1 h1 H=>?_)
 refine sg (H.p 0 rfl) ?_
 refine Zn (fun h=>V4.ok hm h) (fun r1 hm=>?_)
 refine sg (H.p 0 rfl) ?_
 exact Zb (.inl rfl) (!r1) _ rfl (Zf.refl _ _) H.sub hm
end Go.Proofs.YtpkhmfedaaoalaaGreatDoor
