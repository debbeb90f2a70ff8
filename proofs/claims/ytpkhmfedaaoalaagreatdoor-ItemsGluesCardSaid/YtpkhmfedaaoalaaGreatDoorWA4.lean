/- ItemsGlues: a part of its proof (packed by a program). -/
import Derived.Test.YtpkhmfedaaoalaaGreatDoorAwk
import Derived.Test.YtpkhmfedaaoalaaGreatDoorWA0
import Derived.Test.YtpkhmfedaaoalaaGreatDoorWA1
import Derived.Test.YtpkhmfedaaoalaaGreatDoorWA3
set_option linter.all false
namespace Go.Proofs.YtpkhmfedaaoalaaGreatDoor
open Go Go.Proofs.YtpkhmfedaaoalaaGreatDoor.AM
set_option maxRecDepth 100000
set_option maxHeartbeats 4000000
abbrev Jw:Nat:=146
noncomputable def W0:AC:=
 (.seq (.reg [oO 4 (.assign (oC 0))]) (.seq (.seq (.reg [oM 6 0,oN 7 6 180,oO 8 (.move (oC 0))]) (.block 0 (.loop (.seq (.reg [oO 9 (.binOp .lss 3 (oT 8) (oT 7) 3)]) (.seq (.cond (oT 9) .skip (.exit 0)) (.seq (.block 1 (.seq (.reg [oM 10 8,oA 5 10]) (.seq (.reg [oM 11 1,oM 12 0,oM 13 5,oI 14 180 12 13,oL 15 9 14,oO 16 (.call (.mk (.value (oT 11)) #[(oT 15)] #[9]))]) (.cond (oT 16) (.seq (.reg [oM 17 5,oA 4 17]) .ret) .skip)))) (.reg [oO 18 (.binOp .add 3 (oT 8) (oC 1) 3),oM 8 18]))))))) (.seq (.reg [oO 4 (.assign (oC (-1)))]) .ret)))
theorem Kx:EN W0 [(ResultVar.tmp 4)] 19 146:=acE Tryz.func146 (ann:=Yy)
def Yf.w (a0_:List ByteArray) (c0_:Int) (Q:Int→Int→Prop):Prop:=
 X2 (σ:=Int×Int) (fun ⟨a1,a2⟩ next1=>
  if a2 < (a0_.length:Int) then
   (0≤a2) ∧
   ∃ v1:ByteArray,a0_[a2.toNat]? = some v1 ∧
   Kg.w v1 a1 (fun r1 v2=>
    if r1 = true then
     Q a2 v2
    else
     (I64 (a2+1)) ∧
     next1 (v2,a2+1))
  else
   Q (-1) a1) (c0_,0)
theorem Yf.ok {a0_:List ByteArray} {c0_:Int} {Q:Int→Int→Prop} (hm:Yf.w a0_ c0_ Q) {h0 h:Hp} {b0_:Nat} (H:AM.Own h0 h [⟨(.optr b0_ 1 0 0),true,1,[[(.val (.int .u8 c0_))]],some (5,1)⟩]):Zo Tryz.prog Jw [(.isl 1 (a0_.map AM.encStr)),(.fn (.func 147) [] [(.optr b0_ 1 0 0)])] h (fun e h'=>∃ (r:Int) (c0':Int),e = .ret ((fun r=>(aint r)) r)∧AM.Own h0 h' [⟨(.optr b0_ 1 0 0),true,1,[[(.val (.int .u8 c0'))]],some (5,1)⟩]∧Q r c0'):=by
 refine Kx ?_
 unfold Yf.w at hm
 try simp -implicitDefEqProofs (disch:=omega) only [push_cast,seval,W0,H.p 0 rfl]
 obtain ⟨inv1,mu1,hi1,hs1⟩:=hm
 replace H:=H.pm [0]
 refine Z7 (σ:=(Int×Int)×Hp) (fun ⟨⟨a1,a2⟩,h1⟩=>⟨((((List.replicate 19 AV.any).set 0 (.isl 1 (a0_.map AM.encStr))).set 1 (.fn (.func 147) [] [(.optr b0_ 1 0 0)])).set 7 (aint (a0_.length:Int))).set 8 (aint a2),h1⟩) (fun ⟨⟨a1,a2⟩,h1⟩=>inv1 (a1,a2)∧AM.Own h0 h1 [⟨(.optr b0_ 1 0 0),true,1,[[(.val (.int .u8 a1))]],some (5,1)⟩]) (fun ⟨⟨a1,a2⟩,h1⟩=>mu1 (a1,a2)) ⟨(c0_,0),h⟩ (rtw) ⟨hi1,H⟩ ?_
 rintro ⟨⟨a1,a2⟩,h1⟩ ⟨hi1,H⟩
 have hm:=hs1 _ hi1
 dsimp only at hm H ⊢
 refine sg (H.p 0 rfl) ?_
 refine fkc (fun c1=>?_) fun c1=>?_
 ·replace hm:=ifp hm c1
  obtain ⟨z1,v1,i1,hm⟩:=hm
  refine sg (ai (eq_true c1) (ai (eq_true z1) (ai i1 (H.p 0 rfl)))) ?_
  obtain ⟨h2,HF1,hB1⟩:=H.frame [0] (by decide)
  refine Z1 (Kg.ok hm HF1) ?_
  rintro _ h3 ⟨r1,v2,rfl,H',hm⟩
  replace H:=hB1 _ _ rfl H'
  refine sg (ai (eq_true c1) (ai (eq_true z1) (ai i1 (H.p 0 rfl)))) ?_
  rw [Zw]
  refine ⟨fun c2=>?_,fun c2=>?_⟩
  ·replace hm:=ifp hm c2
   refine sg (ai (eq_true c1) (ai (eq_true z1) (ai i1 (ai c2 (H.p 0 rfl))))) ?_
   replace H:=H.pm [0]
   exact Ym (.inl rfl) (x:=(aint a2)) rfl (Zf.refl _ _) ⟨a2,v2,rfl,H,hm⟩
  replace hm:=ifn hm (by rw [c2]; exact Bool.false_ne_true)
  obtain ⟨w1,hm⟩:=hm
  have F1:=ai (eq_true c1) (ai (eq_true z1) (ai i1 (ai c2 (wrap_i64 _ w1))))
  refine sg (ai F1 (H.p 0 rfl)) ?_
  replace H:=H.pm [0]
  exact ⟨⟨(v2,a2+1),h3⟩,hm.2,⟨hm.1,H⟩,rtw⟩
 replace hm:=ifn hm c1
 refine sg (ai (eq_false c1) (H.p 0 rfl)) ?_
 replace H:=H.pm [0]
 exact Ym (.inl rfl) (x:=(aint (-1))) rfl (Zf.refl _ _) ⟨-1,a1,rfl,H,hm⟩
abbrev n_lex_Name:Nat:=115
noncomputable def ac_lex_Name:AC:=
 (.seq (.reg [oO 1 (.box 5 (oT 0)),oO 2 (.assign (.const (.string (ByteArray.mk #[]))))]) (.seq (.reg [oO 5 (oK 145 #[] #[]),oA 3 5]) (.seq (.reg [oM 6 3,oO 7 (.makeFunc (Fn.func 147) #[] #[(oT 1)]),oO 8 (oK 146 #[(oT 6),(oT 7)] #[180,173]),oA 4 8]) (.seq (.seq (.reg [oM 9 4,oO 10 (.binOp .lss 3 (oT 9) (oC 0) 3)]) (.cond (oT 10) (.seq (.reg [oO 2 (.assign (.const (.string (ByteArray.mk #[]))))]) .ret) .skip)) (.seq (.reg [oM 11 3,oM 12 4,oI 13 180 11 12,oL 14 9 13,oA 2 14]) .ret)))))
theorem enter_lex_Name:EN ac_lex_Name [(ResultVar.tmp 2)] 15 115:=acE Tryz.func115 (ann:=Yy)
def X7a.w (a0_:Int) (Q:ByteArray→Prop):Prop:=
 Y8a.w  (fun r1=>
  Yf.w r1 a0_ (fun r2 v1=>
   if r2 < 0 then
    Q (ByteArray.mk #[])
   else
    (0≤r2) ∧
    ∃ v2:ByteArray,r1[r2.toNat]? = some v2 ∧
    Q v2))
theorem X7a.ok {a0_:Int} {Q:ByteArray→Prop} (hm:X7a.w a0_ Q) (h0:Hp):Zo Tryz.prog n_lex_Name [(.val (.int .u8 a0_))] h0 (Back h0 (fun r=>(astr r)) Q):=by
 refine enter_lex_Name ?_
 unfold X7a.w at hm
 have H:=AM.Own.nil h0
 try simp -implicitDefEqProofs (disch:=omega) only [push_cast,seval,ac_lex_Name]
 refine H.newR [(.val (.int .u8 a0_))] rfl (fun b1 h1 H=>?_)
 refine sg (H.p 0 rfl) ?_
 refine Zn (fun h=>Y8a.ok hm h) (fun r1 hm=>?_)
 refine sg (H.p 0 rfl) ?_
 obtain ⟨h2,HF1,hB1⟩:=H.frame [0] (by decide)
 refine Z1 (Yf.ok hm HF1) ?_
 rintro _ h3 ⟨r2,v1,rfl,H',hm⟩
 replace H:=hB1 _ _ rfl H'
 refine sg (H.p 0 rfl) ?_
 refine fkc (fun c1=>?_) fun c1=>?_
 ·replace hm:=ifp hm c1
  refine sg (ai (eq_true c1) (H.p 0 rfl)) ?_
  exact Zb (.inl rfl) (ByteArray.mk #[]) _ rfl (Zf.refl _ _) H.sub hm
 replace hm:=ifn hm c1
 obtain ⟨z1,v2,i1,hm⟩:=hm
 refine sg (ai (eq_false c1) (ai (eq_true z1) (ai i1 (H.p 0 rfl)))) ?_
 exact Zb (.inl rfl) v2 _ rfl (Zf.refl _ _) H.sub hm
abbrev n_chars_Is:Nat:=95
noncomputable def ac_chars_Is:AC:=
 (.seq (.reg [oO 2 (.assign (.const (.bool false)))]) (.seq (.reg [oM 4 0,oO 5 (oK 60 #[(oT 4)] #[5]),oA 3 5]) (.seq (.reg [oM 6 3,oO 7 (.binOp .neq 3 (oT 6) (oC 0) 3),oM 8 7,oG 9 8 true (.move (oT 3)),oG 10 8 true (.binOp .neq 3 (oT 9) (oC 6) 3),oO 11 (.pick (oT 8) (oT 10) (.const (.bool false))),oA 2 11]) .ret)))
theorem enter_chars_Is:EN ac_chars_Is [(ResultVar.tmp 2)] 12 95:=acE Tryz.func95 (ann:=Yy)
def Zya.w (a0_:Int) (Q:Bool→Prop):Prop:=
 Wi.w a0_ (fun r1=>
  if r1 = 0 then
   Q false
  else
   Q (decide (¬ (r1 = 6))))
theorem Zya.ok {a0_:Int} {Q:Bool→Prop} (hm:Zya.w a0_ Q) (h0:Hp):Zo Tryz.prog n_chars_Is [(.val (.int .u8 a0_))] h0 (Back h0 (fun r=>(Zk r)) Q):=by
 refine enter_chars_Is ?_
 unfold Zya.w at hm
 have H:=AM.Own.nil h0
 try simp -implicitDefEqProofs (disch:=omega) only [push_cast,seval,ac_chars_Is]
 refine Zn (fun h=>Wi.ok hm h) (fun r1 hm=>?_)
 refine sg0 ?_
 refine gfk (fun c1=>?_) fun c1=>?_
 ·replace hm:=ifn hm c1
  refine sg (eq_false c1) ?_
  exact Zb (.inl rfl) (decide (¬ (r1 = 6))) _ rfl (Zf.refl _ _) H.sub hm
 replace c1:=Decidable.not_not.1 c1
 replace hm:=ifp hm c1
 refine sg (eq_true c1) ?_
 exact Zb (.inl rfl) false _ rfl (Zf.refl _ _) H.sub hm
abbrev n_tree_plain_1:Nat:=116
noncomputable def Kia:AC:=
 (.seq (.reg [oO 2 (.assign (.const (.bool false)))]) (.seq (.reg [oM 3 0,oO 4 (.binOp .gtr 21 (oT 3) (.const (.int .i32 127)) 21),oM 5 4,oG 6 5 false (.move (oT 0)),oG 7 5 false (.convert 21 5 (oT 6)),oG 8 5 false (oK 95 #[(oT 7)] #[5]),oG 9 5 false (.unOp .not 4 (oT 8)),oG 10 5 false (.move (oT 9)),oG 11 10 true (.move (oT 0)),oG 12 10 true (.convert 21 5 (oT 11)),oG 13 10 true (oK 117 #[(oT 12)] #[5]),oG 14 10 true (.unOp .not 4 (oT 13)),oG 15 5 false (.pick (oT 10) (oT 14) (.const (.bool false))),oO 16 (.pick (oT 5) (.const (.bool true)) (oT 15)),oA 2 16]) .ret))
theorem Y6b:EN Kia [(ResultVar.tmp 2)] 17 116:=acE Tryz.func116 (ann:=Yy)
def Vc.w (a0_:Int) (Q:Bool→Prop):Prop:=
 if 127 < a0_ then
  Q true
 else
  Zya.w (IntKind.u8.wrap (a0_)) (fun r1=>
   if (!r1) = true then
    Wh.w (IntKind.u8.wrap (a0_)) (fun r2=>
     Q (!r2))
   else
    Q false)
theorem Vc.ok {a0_:Int} {Q:Bool→Prop} (hm:Vc.w a0_ Q) (h0:Hp):Zo Tryz.prog n_tree_plain_1 [(.val (.int .i32 a0_))] h0 (Back h0 (fun r=>(Zk r)) Q):=by
 refine Y6b ?_
 unfold Vc.w at hm
 have H:=AM.Own.nil h0
 try simp -implicitDefEqProofs (disch:=omega) only [push_cast,seval,Kia]
 refine gfk' (fun c1=>?_) fun c1=>?_
 ·replace hm:=ifp hm c1
  refine sg (eq_true c1) ?_
  exact Zb (.inl rfl) true _ rfl (Zf.refl _ _) H.sub hm
 replace hm:=ifn hm c1
 refine sg (eq_false c1) ?_
 refine Zn (fun h=>Zya.ok hm h) (fun r1 hm=>?_)
 refine sg (eq_false c1) ?_
 rw [Kh]
 refine ⟨fun c2=>?_,fun c2=>?_⟩
 ·replace hm:=ifp hm c2
  refine sg (ai (eq_false c1) c2) ?_
  refine Zn (fun h=>Wh.ok hm h) (fun r2 hm=>?_)
  refine sg (ai (eq_false c1) c2) ?_
  exact Zb (.inl rfl) (!r2) _ rfl (Zf.refl _ _) H.sub hm
 replace hm:=ifn hm (by rw [c2]; exact Bool.false_ne_true)
 refine sg (ai (eq_false c1) c2) ?_
 exact Zb (.inl rfl) false _ rfl (Zf.refl _ _) H.sub hm
abbrev K5:Nat:=155
noncomputable def W8:AC:=
 (.seq (.reg [oO 6 (.assign (oC 0))]) (.seq (.seq (.reg [oM 9 0,oO 10 (.range 9 (oT 9))]) (.block 0 (.loop (.seq (.reg [oO 11 (.next (oT 10) true),oO 12 (.extract (oT 11) 0)]) (.seq (.cond (oT 12) .skip (.exit 0)) (.block 1 (.seq (.reg [oO 13 (.extract (oT 11) 1),oO 14 (.extract (oT 11) 2),oA 7 13,oA 8 14]) (.seq (.reg [oM 15 1,oM 16 8,oO 17 (.call (.mk (.value (oT 15)) #[(oT 16)] #[21])),oM 18 2,oO 19 (.binOp .eql 4 (oT 17) (oT 18) 4)]) (.cond (oT 19) (.seq (.reg [oM 20 7,oA 6 20]) .ret) .skip))))))))) (.seq (.reg [oO 6 (.assign (oC (-1)))]) .ret)))
theorem Vi:EN W8 [(ResultVar.tmp 6)] 21 155:=acE Tryz.func155 (ann:=Yy)
def Xn.w (a0_:ByteArray) (a1_:Bool) (Q:Int→Prop):Prop:=
 X2 (σ:=Nat) (fun a1 next1=>
  if a1 < a0_.size then
   Vc.w ((Utf8.decode a0_ a1).1:Int) (fun r1=>
    if (r1 == a1_) = true then
     Q (a1:Int)
    else
     next1 (a1+(Utf8.decode a0_ a1).2))
  else
   Q (-1)) 0
theorem Xn.ok {a0_:ByteArray} {a1_:Bool} {Q:Int→Prop} (hm:Xn.w a0_ a1_ Q) (h0:Hp):Zo Tryz.prog K5 [(astr a0_),(.fn (.func 116) [] []),(Zk a1_)] h0 (Back h0 (fun r=>(aint r)) Q):=by
 refine Vi ?_
 unfold Xn.w at hm
 have H:=AM.Own.nil h0
 try simp -implicitDefEqProofs (disch:=omega) only [push_cast,seval,W8]
 refine range_ofS0 Zmb H a0_ (fun b1 h1 hD H=>?_)
 replace hD:Xf h0 [(b1,.stringIter a0_ 0)]:=hD
 replace H:AM.Own (h0.addR [(b1,.stringIter a0_ 0)]) h1 []:=H
 refine sg0 ?_
 obtain ⟨inv1,mu1,hi1,hs1⟩:=hm
 replace H:=H.pm []
 refine Z7 (σ:=Nat×Hp) (fun ⟨a1,h2⟩=>⟨(((List.replicate 21 AV.any).set 1 (.fn (.func 116) [] [])).set 2 (Zk a1_)).set 10 (.val (.pointer (some ⟨b1,0,none⟩))),h2⟩) (fun ⟨a1,h2⟩=>inv1 a1∧Xf h0 [(b1,.stringIter a0_ a1)]∧AM.Own (h0.addR [(b1,.stringIter a0_ a1)]) h2 []) (fun ⟨a1,h2⟩=>mu1 a1) ⟨0,h1⟩ (rtw) ⟨hi1,hD,H⟩ ?_
 rintro ⟨a1,h2⟩ ⟨hi1,hD,H⟩
 have hm:=hs1 _ hi1
 dsimp only at hm H ⊢
 refine sg0 ?_
 refine nextS_of H hD 0 rfl (fun c1=>?_) (fun c2 h3 hD H=>?_)
 ·replace hm:=ifn hm c1
  refine sg0 ?_
  exact Zb (.inl rfl) (-1) _ rfl (Zf.refl _ _) (Ownr.sub ⟨hD,H⟩) hm
 ·replace hm:=ifp hm c2
  replace hD:Xf h0 [(b1,.stringIter a0_ (a1+(Utf8.decode a0_ a1).2))]:=hD
  replace H:AM.Own (h0.addR [(b1,.stringIter a0_ (a1+(Utf8.decode a0_ a1).2))]) h3 []:=H
  refine sg0 ?_
  refine Zn (fun h=>Vc.ok hm h) (fun r1 hm=>?_)
  refine sg0 ?_
  rw [Zw]
  refine ⟨fun c3=>?_,fun c3=>?_⟩
  ·replace hm:=ifp hm c3
   refine sg c3 ?_
   exact Zb (.inl rfl) (a1:Int) _ rfl (Zf.refl _ _) (Ownr.sub ⟨hD,H⟩) hm
  replace hm:=ifn hm (by rw [c3]; exact Bool.false_ne_true)
  refine sg c3 ?_
  replace H:=H.pm []
  exact ⟨⟨a1+(Utf8.decode a0_ a1).2,h3⟩,hm.2,⟨hm.1,hD,H⟩,rtw⟩
abbrev K6:Nat:=132
noncomputable def W9:AC:=
 (.seq (.reg [oO 4 (.assign (oC 0))]) (.seq (.reg [oM 5 0,oM 6 1,oO 7 (oK 155 #[(oT 5),(oT 6),(.const (.bool true))] #[9,126,4]),oA 4 7]) .ret))
theorem Vj:EN W9 [(ResultVar.tmp 4)] 8 132:=acE Tryz.func132 (ann:=Yy)
def Xq.w (a0_:ByteArray) (Q:Int→Prop):Prop:=
 Xn.w a0_ true (fun r1=>
  Q r1)
theorem Xq.ok {a0_:ByteArray} {Q:Int→Prop} (hm:Xq.w a0_ Q) (h0:Hp):Zo Tryz.prog K6 [(astr a0_),(.fn (.func 116) [] [])] h0 (Back h0 (fun r=>(aint r)) Q):=by
 refine Vj ?_
 unfold Xq.w at hm
 have H:=AM.Own.nil h0
 try simp -implicitDefEqProofs (disch:=omega) only [push_cast,seval,W9]
 refine Zn (fun h=>Xn.ok hm h) (fun r1 hm=>?_)
 refine sg0 ?_
 exact Zb (.inl rfl) r1 _ rfl (Zf.refl _ _) H.sub hm
abbrev Vs:Nat:=94
noncomputable def X9:AC:=
 (.seq (.reg [oO 4 (.assign (.const (.bool false)))]) (.seq (.reg [oM 5 0,oM 6 1,oO 7 (oK 132 #[(oT 5),(oT 6)] #[9,126]),oO 8 (.binOp .geq 3 (oT 7) (oC 0) 3),oA 4 8]) .ret))
theorem Wq:EN X9 [(ResultVar.tmp 4)] 9 94:=acE Tryz.func94 (ann:=Yy)
def Y6.w (a0_:ByteArray) (Q:Bool→Prop):Prop:=
 Xq.w a0_ (fun r1=>
  Q (decide (0≤r1)))
theorem Y6.ok {a0_:ByteArray} {Q:Bool→Prop} (hm:Y6.w a0_ Q) (h0:Hp):Zo Tryz.prog Vs [(astr a0_),(.fn (.func 116) [] [])] h0 (Back h0 (fun r=>(Zk r)) Q):=by
 refine Wq ?_
 unfold Y6.w at hm
 have H:=AM.Own.nil h0
 try simp -implicitDefEqProofs (disch:=omega) only [push_cast,seval,X9]
 refine Zn (fun h=>Xq.ok hm h) (fun r1 hm=>?_)
 refine sg0 ?_
 exact Zb (.inl rfl) (decide (0≤r1)) _ rfl (Zf.refl _ _) H.sub hm
abbrev n_tree_plain:Nat:=72
noncomputable def Xwb:AC:=
 (.seq (.reg [oO 1 (.box 103 (oT 0)),oO 2 (.assign (.const (.bool false)))]) (.seq (.seq (.reg [oF 4 103 1 0,oL 5 5 4,oO 6 (.binOp .neq 5 (oT 5) (oD 46) 5)]) (.cond (oT 6) (.seq (.reg [oF 7 103 1 1,oL 8 9 7,oO 9 (.binOp .eql 9 (oT 8) (.const (.string (ByteArray.mk #[]))) 9),oM 10 9,oG 11 10 true (.fieldAddr 103 (oT 1) 0),oG 12 10 true (.load 5 (oT 11)),oG 13 10 true (oK 115 #[(oT 12)] #[5]),oG 14 10 true (.binOp .neq 9 (oT 13) (.const (.string (ByteArray.mk #[]))) 9),oO 15 (.pick (oT 10) (oT 14) (.const (.bool false))),oA 2 15]) .ret) .skip)) (.seq (.reg [oO 3 (.assign (.func 116))]) (.seq (.reg [oF 16 103 1 1,oL 17 9 16,oO 18 (.binOp .neq 9 (oT 17) (.const (.string (ByteArray.mk #[]))) 9),oM 19 18,oG 20 19 true (.fieldAddr 103 (oT 1) 3),oG 21 19 true (.load 3 (oT 20)),oG 22 19 true (.binOp .eql 3 (oT 21) (oC 1) 3),oO 23 (.pick (oT 19) (oT 22) (.const (.bool false))),oM 24 23,oG 25 24 true (.fieldAddr 103 (oT 1) 1),oG 26 24 true (.load 9 (oT 25)),oG 27 24 true (.move (oT 3)),oG 28 24 true (oK 94 #[(oT 26),(oT 27)] #[9,126]),oG 29 24 true (.unOp .not 4 (oT 28)),oO 30 (.pick (oT 24) (oT 29) (.const (.bool false))),oA 2 30]) .ret))))
theorem enter_tree_plain:EN Xwb [(ResultVar.tmp 2)] 31 72:=acE Tryz.func72 (ann:=Yy)
def J1.w (a0_:Za) (Q:Bool→Prop):Prop:=
 if a0_.Kind = 46 then
  if a0_.Text = (ByteArray.mk #[]) then
   Q false
  else
   if a0_.Size = 1 then
    Y6.w a0_.Text (fun r2=>
     Q (!r2))
   else
    Q false
 else
  if a0_.Text = (ByteArray.mk #[]) then
   X7a.w a0_.Kind (fun r1=>
    Q (decide (¬ (r1 = (ByteArray.mk #[])))))
  else
   Q false
theorem J1.ok {a0_:Za} {Q:Bool→Prop} (hm:J1.w a0_ Q) (h0:Hp):Zo Tryz.prog n_tree_plain [(.agg (Za.enc a0_))] h0 (Back h0 (fun r=>(Zk r)) Q):=by
 refine enter_tree_plain ?_
 unfold J1.w at hm
 have H:=AM.Own.nil h0
 try simp -implicitDefEqProofs (disch:=omega) only [push_cast,seval,Xwb]
 refine H.newR (Za.enc a0_) rfl (fun b1 h1 H=>?_)
 refine sg (H.p 0 rfl) ?_
 refine fkc (fun c1=>?_) fun c1=>?_
 ·replace hm:=ifn hm c1
  refine sg (ai (eq_false c1) (H.p 0 rfl)) ?_
  refine gfk (fun c2=>?_) fun c2=>?_
  ·replace hm:=ifp hm c2
   refine sg (ai (eq_false c1) (ai (eq_true c2) (H.p 0 rfl))) ?_
   refine Zn (fun h=>X7a.ok hm h) (fun r1 hm=>?_)
   refine sg (ai (eq_false c1) (ai (eq_true c2) (H.p 0 rfl))) ?_
   exact Zb (.inl rfl) (decide (¬ (r1 = (ByteArray.mk #[])))) _ rfl (Zf.refl _ _) H.sub hm
  replace hm:=ifn hm c2
  refine sg (ai (eq_false c1) (ai (eq_false c2) (H.p 0 rfl))) ?_
  exact Zb (.inl rfl) false _ rfl (Zf.refl _ _) H.sub hm
 replace c1:=Decidable.not_not.1 c1
 replace hm:=ifp hm c1
 refine sg (ai (eq_true c1) (H.p 0 rfl)) ?_
 refine gfk (fun c3=>?_) fun c3=>?_
 ·replace hm:=ifn hm c3
  refine sg (ai (eq_true c1) (ai (eq_false c3) (H.p 0 rfl))) ?_
  refine gfk (fun c4=>?_) fun c4=>?_
  ·replace hm:=ifp hm c4
   refine sg (ai (eq_true c1) (ai (eq_false c3) (ai (eq_true c4) (H.p 0 rfl)))) ?_
   refine Zn (fun h=>Y6.ok hm h) (fun r2 hm=>?_)
   refine sg (ai (eq_true c1) (ai (eq_false c3) (ai (eq_true c4) (H.p 0 rfl)))) ?_
   exact Zb (.inl rfl) (!r2) _ rfl (Zf.refl _ _) H.sub hm
  replace hm:=ifn hm c4
  refine sg (ai (eq_true c1) (ai (eq_false c3) (ai (eq_false c4) (H.p 0 rfl)))) ?_
  exact Zb (.inl rfl) false _ rfl (Zf.refl _ _) H.sub hm
 replace c3:=Decidable.not_not.1 c3
 replace hm:=ifp hm c3
 refine sg (ai (eq_true c1) (ai (eq_true c3) (H.p 0 rfl))) ?_
 exact Zb (.inl rfl) false _ rfl (Zf.refl _ _) H.sub hm
abbrev n_tree_Check_1:Nat:=71
noncomputable def Kka:AC:=
 (.seq (.reg [oO 1 (.box 103 (oT 0)),oO 2 (.assign (.const (.bool false)))]) (.seq (.reg [oL 3 103 1,oO 4 (oK 72 #[(oT 3)] #[103]),oO 5 (.unOp .not 4 (oT 4)),oA 2 5]) .ret))
theorem Y8b:EN Kka [(ResultVar.tmp 2)] 6 71:=acE Tryz.func71 (ann:=Yy)
def V0.w (a0_:Za) (Q:Bool→Prop):Prop:=
 J1.w a0_ (fun r1=>
  Q (!r1))
theorem V0.ok {a0_:Za} {Q:Bool→Prop} (hm:V0.w a0_ Q) (h0:Hp):Zo Tryz.prog n_tree_Check_1 [(.agg (Za.enc a0_))] h0 (Back h0 (fun r=>(Zk r)) Q):=by
 refine Y8b ?_
 unfold V0.w at hm
 have H:=AM.Own.nil h0
 try simp -implicitDefEqProofs (disch:=omega) only [push_cast,seval,Kka]
 refine H.newR (Za.enc a0_) rfl (fun b1 h1 H=>?_)
 refine sg (H.p 0 rfl) ?_
 refine Zn (fun h=>J1.ok hm h) (fun r1 hm=>?_)
 refine sg (H.p 0 rfl) ?_
 exact Zb (.inl rfl) (!r1) _ rfl (Zf.refl _ _) H.sub hm
abbrev Kv:Nat:=114
noncomputable def X7:AC:=
 (.seq (.reg [oO 4 (.assign (oC 0))]) (.seq (.seq (.reg [oM 6 0,oN 7 6 51,oO 8 (.move (oC 0))]) (.block 0 (.loop (.seq (.reg [oO 9 (.binOp .lss 3 (oT 8) (oT 7) 3)]) (.seq (.cond (oT 9) .skip (.exit 0)) (.seq (.block 1 (.seq (.reg [oM 10 8,oA 5 10]) (.seq (.reg [oM 11 1,oM 12 0,oM 13 5,oI 14 51 12 13,oL 15 103 14,oO 16 (.call (.mk (.value (oT 11)) #[(oT 15)] #[103]))]) (.cond (oT 16) (.seq (.reg [oM 17 5,oA 4 17]) .ret) .skip)))) (.reg [oO 18 (.binOp .add 3 (oT 8) (oC 1) 3),oM 8 18]))))))) (.seq (.reg [oO 4 (.assign (oC (-1)))]) .ret)))
theorem Vz:EN X7 [(ResultVar.tmp 4)] 19 114:=acE Tryz.func114 (ann:=Yy)
def Z6.w (a0_:List Za) (Q:Int→Prop):Prop:=
 X2 (σ:=Int) (fun a1 next1=>
  if a1 < (a0_.length:Int) then
   (0≤a1) ∧
   ∃ v1:Za,a0_[a1.toNat]? = some v1 ∧
   V0.w v1 (fun r1=>
    if r1 = true then
     Q a1
    else
     (I64 (a1+1)) ∧
     next1 (a1+1))
  else
   Q (-1)) 0
theorem Z6.ok {a0_:List Za} {Q:Int→Prop} (hm:Z6.w a0_ Q) (h0:Hp):Zo Tryz.prog Kv [(.isl 4 (a0_.map Za.enc)),(.fn (.func 71) [] [])] h0 (Back h0 (fun r=>(aint r)) Q):=by
 refine Vz ?_
 unfold Z6.w at hm
 have H:=AM.Own.nil h0
 try simp -implicitDefEqProofs (disch:=omega) only [push_cast,seval,X7]
 obtain ⟨inv1,mu1,hi1,hs1⟩:=hm
 replace H:=H.pm []
 refine Z7 (σ:=Int×Hp) (fun ⟨a1,h1⟩=>⟨((((List.replicate 19 AV.any).set 0 (.isl 4 (a0_.map Za.enc))).set 1 (.fn (.func 71) [] [])).set 7 (aint (a0_.length:Int))).set 8 (aint a1),h1⟩) (fun ⟨a1,h1⟩=>inv1 a1∧AM.Own h0 h1 []) (fun ⟨a1,h1⟩=>mu1 a1) ⟨0,h0⟩ (rtw) ⟨hi1,H⟩ ?_
 rintro ⟨a1,h1⟩ ⟨hi1,H⟩
 have hm:=hs1 _ hi1
 dsimp only at hm H ⊢
 refine sg0 ?_
 refine fkc (fun c1=>?_) fun c1=>?_
 ·replace hm:=ifp hm c1
  obtain ⟨z1,v1,i1,hm⟩:=hm
  refine sg (ai (eq_true c1) (ai (eq_true z1) i1)) ?_
  refine Zn (fun h=>V0.ok hm h) (fun r1 hm=>?_)
  refine sg (ai (eq_true c1) (ai (eq_true z1) i1)) ?_
  rw [Zw]
  refine ⟨fun c2=>?_,fun c2=>?_⟩
  ·replace hm:=ifp hm c2
   refine sg (ai (eq_true c1) (ai (eq_true z1) (ai i1 c2))) ?_
   exact Zb (.inl rfl) a1 _ rfl (Zf.refl _ _) H.sub hm
  replace hm:=ifn hm (by rw [c2]; exact Bool.false_ne_true)
  obtain ⟨w1,hm⟩:=hm
  have F1:=ai (eq_true c1) (ai (eq_true z1) (ai i1 (ai c2 (wrap_i64 _ w1))))
  refine sg F1 ?_
  replace H:=H.pm []
  exact ⟨⟨a1+1,h1⟩,hm.2,⟨hm.1,H⟩,rtw⟩
 replace hm:=ifn hm c1
 refine sg (eq_false c1) ?_
 exact Zb (.inl rfl) (-1) _ rfl (Zf.refl _ _) H.sub hm
abbrev V3:Nat:=70
noncomputable def Xw:AC:=
 (.seq (.reg [oO 4 (.assign (.const (.bool false)))]) (.seq (.reg [oM 5 0,oM 6 1,oO 7 (oK 114 #[(oT 5),(oT 6)] #[51,112]),oO 8 (.binOp .geq 3 (oT 7) (oC 0) 3),oA 4 8]) .ret))
theorem Vk:EN Xw [(ResultVar.tmp 4)] 9 70:=acE Tryz.func70 (ann:=Yy)
def Zu.w (a0_:List Za) (Q:Bool→Prop):Prop:=
 Z6.w a0_ (fun r1=>
  Q (decide (0≤r1)))
theorem Zu.ok {a0_:List Za} {Q:Bool→Prop} (hm:Zu.w a0_ Q) (h0:Hp):Zo Tryz.prog V3 [(.isl 4 (a0_.map Za.enc)),(.fn (.func 71) [] [])] h0 (Back h0 (fun r=>(Zk r)) Q):=by
 refine Vk ?_
 unfold Zu.w at hm
 have H:=AM.Own.nil h0
 try simp -implicitDefEqProofs (disch:=omega) only [push_cast,seval,Xw]
 refine Zn (fun h=>Z6.ok hm h) (fun r1 hm=>?_)
 refine sg0 ?_
 exact Zb (.inl rfl) (decide (0≤r1)) _ rfl (Zf.refl _ _) H.sub hm
abbrev n_tree_sized:Nat:=73
noncomputable def Xvb:AC:=
 (.seq (.reg [oO 6 (.assign (.const (.bool false)))]) (.seq (.block 0 (.loop (.seq (.seq (.reg [oM 8 1,oM 9 2,oO 10 (.binOp .lss 3 (oT 8) (oT 9) 3)]) (.cond (oT 10) .skip (.exit 0))) (.block 1 (.seq (.reg [oM 11 0,oM 12 1,oI 13 51 11 12,oL 14 103 13,oO 7 (.alloc 103),oS (.store 103 (oT 7) (oT 14))]) (.seq (.seq (.reg [oF 15 103 7 3,oL 16 3 15,oO 17 (.binOp .lss 3 (oT 16) (oC 1) 3),oM 18 17,oG 19 18 false (.fieldAddr 103 (oT 7) 3),oG 20 18 false (.load 3 (oT 19)),oG 21 18 false (.move (oT 2)),oG 22 18 false (.move (oT 1)),oG 23 18 false (.binOp .sub 3 (oT 21) (oT 22) 3),oG 24 18 false (.binOp .gtr 3 (oT 20) (oT 23) 3),oO 25 (.pick (oT 18) (.const (.bool true)) (oT 24)),oM 26 25,oG 27 26 false (.move (oT 0)),oG 28 26 false (.move (oT 1)),oG 29 26 false (.binOp .add 3 (oT 28) (oC 1) 3),oG 30 26 false (.move (oT 1)),oG 31 26 false (.fieldAddr 103 (oT 7) 3),oG 32 26 false (.load 3 (oT 31)),oG 33 26 false (.binOp .add 3 (oT 30) (oT 32) 3),oG 34 26 false (oK 73 #[(oT 27),(oT 29),(oT 33)] #[51,3,3]),oG 35 26 false (.unOp .not 4 (oT 34)),oO 36 (.pick (oT 26) (.const (.bool true)) (oT 35))]) (.cond (oT 36) (.seq (.reg [oO 6 (.assign (.const (.bool false)))]) .ret) .skip)) (.reg [oM 37 1,oF 38 103 7 3,oL 39 3 38,oO 40 (.binOp .add 3 (oT 37) (oT 39) 3),oA 1 40]))))))) (.seq (.reg [oO 6 (.assign (.const (.bool true)))]) .ret)))
theorem enter_tree_sized:EN Xvb [(ResultVar.tmp 6)] 41 73:=acE Tryz.func73 (ann:=Yy)
def Xk.wn:Nat→(List Za)→Int→Int→(Bool→Prop)→Prop
 | 0,_,_,_,_=>False
 | k+1,a0_,a1_,a2_,Q=>
  X2 (σ:=Int) (fun a1 next1=>
   if a1 < a2_ then
    (0≤a1) ∧
    ∃ v1:Za,a0_[a1.toNat]? = some v1 ∧
    if v1.Size < 1 then
     Q false
    else
     (I64 (a2_ - a1)) ∧
     if a2_ - a1 < v1.Size then
      Q false
     else
      (I64 (a1+1)) ∧
      (I64 (a1+v1.Size)) ∧
      Xk.wn k a0_ (a1+1) (a1+v1.Size) (fun r1=>
       if (!r1) = true then
        Q false
       else
        (I64 (a1+v1.Size)) ∧
        next1 (a1+v1.Size))
   else
    Q true) a1_
def Xk.w (a0_:List Za) (a1_:Int) (a2_:Int) (Q:Bool→Prop):Prop:=∃ k,Xk.wn k a0_ a1_ a2_ Q
theorem Xk.okn:∀ (k:Nat) (a0_:List Za) (a1_:Int) (a2_:Int) (Q:Bool→Prop) (hm:Xk.wn k a0_ a1_ a2_ Q) (h0:Hp),Zo Tryz.prog n_tree_sized [(.isl 4 (a0_.map Za.enc)),(aint a1_),(aint a2_)] h0 (Back h0 (fun r=>(Zk r)) Q)
 | 0,_,_,_,_,hm,_=>hm.elim
 | k+1,a0_,a1_,a2_,Q,hm,h0=>by
  refine enter_tree_sized ?_
  unfold Xk.wn at hm
  have H:=AM.Own.nil h0
  try simp -implicitDefEqProofs (disch:=omega) only [push_cast,seval,Xvb]
  obtain ⟨inv1,mu1,hi1,hs1⟩:=hm
  replace H:=H.pm []
  refine Z7 (σ:=Int×Hp) (fun ⟨a1,h1⟩=>⟨(((List.replicate 41 AV.any).set 0 (.isl 4 (a0_.map Za.enc))).set 1 (aint a1)).set 2 (aint a2_),h1⟩) (fun ⟨a1,h1⟩=>inv1 a1∧AM.Own h0 h1 []) (fun ⟨a1,h1⟩=>mu1 a1) ⟨a1_,h0⟩ (rtw) ⟨hi1,H⟩ ?_
  rintro ⟨a1,h1⟩ ⟨hi1,H⟩
  have hm:=hs1 _ hi1
  dsimp only at hm H ⊢
  refine sg0 ?_
  refine fkc (fun c1=>?_) fun c1=>?_
  ·replace hm:=ifp hm c1
   obtain ⟨z1,v1,i1,hm⟩:=hm
   refine sg (ai (eq_true c1) (ai (eq_true z1) i1)) ?_
   refine H.newR [(.val (.int .u8 0)),(astr (ByteArray.mk #[])),(aint 0),(aint 0)] rfl (fun b1 h2 H=>?_)
   refine sg (ai (eq_true c1) (ai (eq_true z1) (ai i1 (H.p 0 rfl)))) ?_
   refine H.stP 0 (Za.enc v1) rfl rfl rfl rfl (Nat.le_of_ble_eq_true rfl) rfl (fun h3 H=>?_)
   refine sg (ai (eq_true c1) (ai (eq_true z1) (ai i1 (H.p 0 rfl)))) ?_
   refine gfk' (fun c2=>?_) fun c2=>?_
   ·replace hm:=ifp hm c2
    refine sg (ai (eq_true c1) (ai (eq_true z1) (ai i1 (ai (eq_true c2) (H.p 0 rfl))))) ?_
    exact Zb (.inl rfl) false _ rfl (Zf.refl _ _) H.sub hm
   replace hm:=ifn hm c2
   obtain ⟨w1,hm⟩:=hm
   have F1:=ai (eq_true c1) (ai (eq_true z1) (ai i1 (ai (eq_false c2) (wrap_i64 _ w1))))
   refine sg (ai F1 (H.p 0 rfl)) ?_
   refine gfk' (fun c3=>?_) fun c3=>?_
   ·replace hm:=ifp hm c3
    refine sg (ai F1 (ai (eq_true c3) (H.p 0 rfl))) ?_
    exact Zb (.inl rfl) false _ rfl (Zf.refl _ _) H.sub hm
   replace hm:=ifn hm c3
   obtain ⟨w2,w3,hm⟩:=hm
   have F2:=ai F1 (ai (eq_false c3) (ai (wrap_i64 _ w2) (wrap_i64 _ w3)))
   refine sg (ai F2 (H.p 0 rfl)) ?_
   refine Zn (fun h=>Xk.okn k _ _ _ _ hm h) (fun r1 hm=>?_)
   refine sg (ai F2 (H.p 0 rfl)) ?_
   rw [Zw]
   refine ⟨fun c4=>?_,fun c4=>?_⟩
   ·replace hm:=ifp hm c4
    refine sg (ai F2 (ai c4 (H.p 0 rfl))) ?_
    exact Zb (.inl rfl) false _ rfl (Zf.refl _ _) H.sub hm
   replace hm:=ifn hm (by rw [c4]; exact Bool.false_ne_true)
   obtain ⟨w4,hm⟩:=hm
   refine sg (ai F2 (ai c4 (ai (wrap_i64 _ w4) (H.p 0 rfl)))) ?_
   replace H:=H.pm []
   exact ⟨⟨a1+v1.Size,h3⟩,hm.2,⟨hm.1,H⟩,rtw⟩
  replace hm:=ifn hm c1
  refine sg (eq_false c1) ?_
  exact Zb (.inl rfl) true _ rfl (Zf.refl _ _) H.sub hm
theorem Xk.ok {a0_:List Za} {a1_:Int} {a2_:Int} {Q:Bool→Prop} (hm:Xk.w a0_ a1_ a2_ Q) (h0:Hp):Zo Tryz.prog n_tree_sized [(.isl 4 (a0_.map Za.enc)),(aint a1_),(aint a2_)] h0 (Back h0 (fun r=>(Zk r)) Q):=hm.elim fun k hk=>Xk.okn k a0_ a1_ a2_ Q hk h0
end Go.Proofs.YtpkhmfedaaoalaaGreatDoor
