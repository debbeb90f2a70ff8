/- ItemsGlues: a part of its proof (packed by a program). -/
import Derived.Test.YtpkhmfedaaoalaaGreatDoorPln
import Derived.Test.YtpkhmfedaaoalaaGreatDoorWA0
set_option linter.all false
namespace Go.Proofs.YtpkhmfedaaoalaaGreatDoor
open Go Go.Proofs.YtpkhmfedaaoalaaGreatDoor.AM
set_option maxRecDepth 100000
set_option maxHeartbeats 4000000
abbrev n_chars_bits_has:Nat:=104
noncomputable def Xxa:AC:=
 (.seq (.reg [oO 2 (.box 135 (oT 0)),oO 4 (.assign (.const (.bool false)))]) (.seq (.reg [oM 5 1,oO 6 (.binOp .shr 5 (oT 5) (.const (.int .u64 6)) 130),oI 7 135 2 6,oL 8 133 7,oM 9 1,oO 10 (.binOp .and 5 (oT 9) (oD 63) 5),oO 11 (.binOp .shr 133 (oT 8) (oT 10) 5),oO 12 (.binOp .and 133 (oT 11) (.const (.int .u64 1)) 133),oO 13 (.binOp .eql 133 (oT 12) (.const (.int .u64 1)) 133),oA 4 13]) .ret))
theorem Jpa:EN Xxa [(ResultVar.tmp 4)] 14 104:=acE Tryz.func104 (ann:=Yy)
def Vr.w (a0_:List Int) (a1_:Int) (Q:Bool→Prop):Prop:=
 (a0_.length = 4) ∧
 (0≤ishr .u8 a1_ 6) ∧
 ((ishr .u8 a1_ 6).toNat < 4) ∧
 ∃ v1:Int,a0_[(ishr .u8 a1_ 6).toNat]? = some v1 ∧
 (0≤iand .u8 a1_ 63) ∧
 Q (decide (iand .u64 (ishr .u64 v1 (iand .u8 a1_ 63)) 1 = 1))
theorem Vr.ok {a0_:List Int} {a1_:Int} {Q:Bool→Prop} (hm:Vr.w a0_ a1_ Q) (h0:Hp):Zo Tryz.prog n_chars_bits_has [(.agg (a0_.map (fun v=>(.val (.int .u64 v))))),(.val (.int .u8 a1_))] h0 (Back h0 (fun r=>(Zk r)) Q):=by
 refine Jpa ?_
 unfold Vr.w at hm
 have H:=AM.Own.nil h0
 try simp -implicitDefEqProofs (disch:=omega) only [push_cast,seval,Xxa]
 obtain ⟨z1,hm⟩:=hm
 refine ⟨z1,?_⟩
 refine H.newR (a0_.map (fun v=>(.val (.int .u64 v)))) rfl (fun b1 h1 H=>?_)
 obtain ⟨z2,z3,v1,i1,z4,hm⟩:=hm
 try simp -implicitDefEqProofs (disch:=omega) only [push_cast,seval,eq_true z2,eq_true z3,Kca i1,i1,Option.map_some,eq_true z4,H.p 0 rfl]
 exact Zb (.inl rfl) (decide (iand .u64 (ishr .u64 v1 (iand .u8 a1_ 63)) 1 = 1)) _ rfl (Zf.refl _ _) H.sub hm
abbrev n_chars_Class:Nat:=60
noncomputable def Zgb:AC:=
 (.seq (.reg [oO 2 (.assign (oC 0))]) (.seq (.seq (.reg [oO 5 (oK 103 #[] #[]),oO 6 (.move (oC 0))]) (.block 0 (.loop (.seq (.reg [oO 7 (.binOp .lss 3 (oT 6) (oC 7) 3)]) (.seq (.cond (oT 7) .skip (.exit 0)) (.seq (.block 1 (.seq (.reg [oM 8 6,oO 9 (.index 136 (oT 5) (oT 6)),oO 4 (.alloc 135),oA 3 8,oS (.store 135 (oT 4) (oT 9))]) (.seq (.reg [oL 10 135 4,oM 11 0,oO 12 (oK 104 #[(oT 10),(oT 11)] #[135,5])]) (.cond (oT 12) (.seq (.reg [oM 13 3,oA 2 13]) .ret) .skip)))) (.reg [oO 14 (.binOp .add 3 (oT 6) (oC 1) 3),oM 6 14]))))))) (.seq (.reg [oO 2 (.assign (oC 0))]) .ret)))
theorem enter_chars_Class:EN Zgb [(ResultVar.tmp 2)] 15 60:=acE Tryz.func60 (ann:=Yy)
def Wi.w (a0_:Int) (Q:Int→Prop):Prop:=
 Vl.w  (fun r1=>
  X2 (σ:=Int) (fun a1 next1=>
   if a1 < 7 then
    (0≤a1) ∧
    (a1.toNat < 7) ∧
    ((r1.length = 7∧∀ v∈r1,v.length = 4)) ∧
    ∃ v1:List Int,r1[a1.toNat]? = some v1 ∧
    (v1.length = 4) ∧
    (([0,0,0,0]:List Int).length = 4) ∧
    (v1.length = 4) ∧
    Vr.w v1 a0_ (fun r2=>
     if r2 = true then
      Q a1
     else
      (I64 (a1+1)) ∧
      next1 (a1+1))
   else
    Q 0) 0)
theorem Wi.ok {a0_:Int} {Q:Int→Prop} (hm:Wi.w a0_ Q) (h0:Hp):Zo Tryz.prog n_chars_Class [(.val (.int .u8 a0_))] h0 (Back h0 (fun r=>(aint r)) Q):=by
 refine enter_chars_Class ?_
 unfold Wi.w at hm
 have H:=AM.Own.nil h0
 try simp -implicitDefEqProofs (disch:=omega) only [push_cast,seval,Zgb]
 refine Zn (fun h=>Vl.ok hm h) (fun r1 hm=>?_)
 refine sg0 ?_
 obtain ⟨inv1,mu1,hi1,hs1⟩:=hm
 replace H:=H.pm []
 refine Z7 (σ:=Int×Hp) (fun ⟨a1,h1⟩=>⟨(((List.replicate 15 AV.any).set 0 (.val (.int .u8 a0_))).set 5 (.agg (Wda (fun v=>(v.map (fun v=>(.val (.int .u64 v))))) r1))).set 6 (aint a1),h1⟩) (fun ⟨a1,h1⟩=>inv1 a1∧AM.Own h0 h1 []) (fun ⟨a1,h1⟩=>mu1 a1) ⟨0,h0⟩ (rtw) ⟨hi1,H⟩ ?_
 rintro ⟨a1,h1⟩ ⟨hi1,H⟩
 have hm:=hs1 _ hi1
 dsimp only at hm H ⊢
 refine sg0 ?_
 refine fkc (fun c1=>?_) fun c1=>?_
 ·replace hm:=ifp hm c1
  obtain ⟨z1,z2,z3,v1,i1,hm⟩:=hm
  have w1:=idx2 (g:=(fun v=>(v.map (fun v=>(.val (.int .u64 v)))))) (ik:=.i64) tab_136 tab_135 rfl z1 z2 z3.1 (fun v hv=>by simpa using (z3.2 v hv)) i1
  refine sg (ai (eq_true c1) (ai (eq_true z1) w1)) ?_
  refine H.newR (([0,0,0,0]:List Int).map (fun v=>(.val (.int .u64 v)))) rfl (fun b1 h2 H=>?_)
  refine sg (ai (eq_true c1) (ai (eq_true z1) (ai w1 (H.p 0 rfl)))) ?_
  obtain ⟨z4,z5,hm⟩:=hm
  refine H.stP 0 (v1.map (fun v=>(.val (.int .u64 v)))) rfl rfl rfl (by exact (Yoa (f:=(fun v=>(.val (.int .u64 v)))) z4)) (by rw [(Yoa (f:=(fun v=>(.val (.int .u64 v)))) z5)]; exact Nat.le_refl _) (by exact arrAll (Yoa (f:=(fun v=>(.val (.int .u64 v)))) z5)) (fun h3 H=>?_)
  obtain ⟨z6,hm⟩:=hm
  have z7:=(Yoa (f:=(fun v=>(.val (.int .u64 v)))) z6)
  try simp -implicitDefEqProofs (disch:=omega) only [push_cast,seval,eq_true c1,eq_true z1,w1,List.take_of_length_le (Nat.le_of_eq z7),z7,Nat.le_refl,List.drop_zero,List.take_length,H.p 0 rfl]
  refine Zn (fun h=>Vr.ok hm h) (fun r2 hm=>?_)
  try simp -implicitDefEqProofs (disch:=omega) only [push_cast,seval,eq_true c1,eq_true z1,w1,List.take_of_length_le (Nat.le_of_eq z7),z7,Nat.le_refl,List.drop_zero,List.take_length,H.p 0 rfl]
  rw [Zw]
  refine ⟨fun c2=>?_,fun c2=>?_⟩
  ·replace hm:=ifp hm c2
   try simp -implicitDefEqProofs (disch:=omega) only [push_cast,seval,eq_true c1,eq_true z1,w1,List.take_of_length_le (Nat.le_of_eq z7),z7,Nat.le_refl,List.drop_zero,List.take_length,c2,H.p 0 rfl]
   exact Zb (.inl rfl) a1 _ rfl (Zf.refl _ _) H.sub hm
  replace hm:=ifn hm (by rw [c2]; exact Bool.false_ne_true)
  obtain ⟨w2,hm⟩:=hm
  have F1:=ai (eq_true c1) (ai (eq_true z1) (ai w1 (ai z7 (ai c2 (wrap_i64 _ w2)))))
  try simp -implicitDefEqProofs (disch:=omega) only [push_cast,seval,F1,List.take_of_length_le (Nat.le_of_eq z7),Nat.le_refl,List.drop_zero,List.take_length,H.p 0 rfl]
  replace H:=H.pm []
  exact ⟨⟨a1+1,h3⟩,hm.2,⟨hm.1,H⟩,rtw⟩
 replace hm:=ifn hm c1
 refine sg (eq_false c1) ?_
 exact Zb (.inl rfl) 0 _ rfl (Zf.refl _ _) H.sub hm
abbrev n_chars_Letter:Nat:=33
noncomputable def Kua:AC:=
 (.seq (.reg [oO 2 (.assign (.const (.bool false)))]) (.seq (.reg [oM 4 0,oO 5 (oK 60 #[(oT 4)] #[5]),oA 3 5]) (.seq (.reg [oM 6 3,oO 7 (.binOp .eql 3 (oT 6) (oC 1) 3),oM 8 7,oG 9 8 false (.move (oT 3)),oG 10 8 false (.binOp .eql 3 (oT 9) (oC 2) 3),oO 11 (.pick (oT 8) (.const (.bool true)) (oT 10)),oA 2 11]) .ret)))
theorem Xhb:EN Kua [(ResultVar.tmp 2)] 12 33:=acE Tryz.func33 (ann:=Yy)
def Wy.w (a0_:Int) (Q:Bool→Prop):Prop:=
 Wi.w a0_ (fun r1=>
  if r1 = 1 then
   Q true
  else
   Q (decide (r1 = 2)))
theorem Wy.ok {a0_:Int} {Q:Bool→Prop} (hm:Wy.w a0_ Q) (h0:Hp):Zo Tryz.prog n_chars_Letter [(.val (.int .u8 a0_))] h0 (Back h0 (fun r=>(Zk r)) Q):=by
 refine Xhb ?_
 unfold Wy.w at hm
 have H:=AM.Own.nil h0
 try simp -implicitDefEqProofs (disch:=omega) only [push_cast,seval,Kua]
 refine Zn (fun h=>Wi.ok hm h) (fun r1 hm=>?_)
 refine sg0 ?_
 refine gfk' (fun c1=>?_) fun c1=>?_
 ·replace hm:=ifp hm c1
  refine sg (eq_true c1) ?_
  exact Zb (.inl rfl) true _ rfl (Zf.refl _ _) H.sub hm
 replace hm:=ifn hm c1
 refine sg (eq_false c1) ?_
 exact Zb (.inl rfl) (decide (r1 = 2)) _ rfl (Zf.refl _ _) H.sub hm
abbrev n_hyph_word:Nat:=133
noncomputable def ac_hyph_word:AC:=
 (.seq (.reg [oO 2 (.assign (.const (.bool false)))]) (.seq (.seq (.reg [oM 4 0,oN 5 4 9,oO 6 (.move (oC 0))]) (.block 0 (.loop (.seq (.reg [oO 7 (.binOp .lss 3 (oT 6) (oT 5) 3)]) (.seq (.cond (oT 7) .skip (.exit 0)) (.seq (.block 1 (.seq (.reg [oM 8 6,oA 3 8]) (.seq (.reg [oM 9 0,oM 10 3,oO 11 (.index 9 (oT 9) (oT 10)),oO 12 (oK 33 #[(oT 11)] #[5]),oO 13 (.unOp .not 4 (oT 12))]) (.cond (oT 13) (.seq (.reg [oO 2 (.assign (.const (.bool false)))]) .ret) .skip)))) (.reg [oO 14 (.binOp .add 3 (oT 6) (oC 1) 3),oM 6 14]))))))) (.seq (.reg [oM 15 0,oO 16 (.binOp .neq 9 (oT 15) (.const (.string (ByteArray.mk #[]))) 9),oA 2 16]) .ret)))
theorem enter_hyph_word:EN ac_hyph_word [(ResultVar.tmp 2)] 17 133:=acE Tryz.func133 (ann:=Yy)
def Xba.w (a0_:ByteArray) (Q:Bool→Prop):Prop:=
 X2 (σ:=Int) (fun a1 next1=>
  if a1 < (a0_.size:Int) then
   (0≤a1) ∧
   ∃ v1:UInt8,a0_[a1.toNat]? = some v1 ∧
   Wy.w (v1.toNat:Int) (fun r1=>
    if (!r1) = true then
     Q false
    else
     (I64 (a1+1)) ∧
     next1 (a1+1))
  else
   Q (decide (¬ (a0_ = (ByteArray.mk #[]))))) 0
theorem Xba.ok {a0_:ByteArray} {Q:Bool→Prop} (hm:Xba.w a0_ Q) (h0:Hp):Zo Tryz.prog n_hyph_word [(astr a0_)] h0 (Back h0 (fun r=>(Zk r)) Q):=by
 refine enter_hyph_word ?_
 unfold Xba.w at hm
 have H:=AM.Own.nil h0
 try simp -implicitDefEqProofs (disch:=omega) only [push_cast,seval,ac_hyph_word]
 obtain ⟨inv1,mu1,hi1,hs1⟩:=hm
 replace H:=H.pm []
 refine Z7 (σ:=Int×Hp) (fun ⟨a1,h1⟩=>⟨(((List.replicate 17 AV.any).set 0 (astr a0_)).set 5 (aint (a0_.size:Int))).set 6 (aint a1),h1⟩) (fun ⟨a1,h1⟩=>inv1 a1∧AM.Own h0 h1 []) (fun ⟨a1,h1⟩=>mu1 a1) ⟨0,h0⟩ (rtw) ⟨hi1,H⟩ ?_
 rintro ⟨a1,h1⟩ ⟨hi1,H⟩
 have hm:=hs1 _ hi1
 dsimp only at hm H ⊢
 refine sg0 ?_
 refine fkc (fun c1=>?_) fun c1=>?_
 ·replace hm:=ifp hm c1
  obtain ⟨z1,v1,i1,hm⟩:=hm
  refine sg (ai (eq_true c1) (ai (eq_true z1) i1)) ?_
  refine Zn (fun h=>Wy.ok hm h) (fun r1 hm=>?_)
  refine sg (ai (eq_true c1) (ai (eq_true z1) i1)) ?_
  rw [Zw]
  refine ⟨fun c2=>?_,fun c2=>?_⟩
  ·replace hm:=ifp hm c2
   refine sg (ai (eq_true c1) (ai (eq_true z1) (ai i1 c2))) ?_
   exact Zb (.inl rfl) false _ rfl (Zf.refl _ _) H.sub hm
  replace hm:=ifn hm (by rw [c2]; exact Bool.false_ne_true)
  obtain ⟨w1,hm⟩:=hm
  have F1:=ai (eq_true c1) (ai (eq_true z1) (ai i1 (ai c2 (wrap_i64 _ w1))))
  refine sg F1 ?_
  replace H:=H.pm []
  exact ⟨⟨a1+1,h1⟩,hm.2,⟨hm.1,H⟩,rtw⟩
 replace hm:=ifn hm c1
 refine sg (eq_false c1) ?_
 exact Zb (.inl rfl) (decide (¬ (a0_ = (ByteArray.mk #[])))) _ rfl (Zf.refl _ _) H.sub hm
abbrev n_chars_Lower:Nat:=164
noncomputable def Zfb:AC:=
 (.seq (.reg [oO 2 (.assign (oD 0))]) (.seq (.seq (.reg [oM 3 0,oO 4 (oK 60 #[(oT 3)] #[5]),oO 5 (.binOp .eql 3 (oT 4) (oC 2) 3)]) (.cond (oT 5) (.seq (.reg [oM 6 0,oO 7 (.binOp .or 5 (oT 6) (oD 32) 5),oA 2 7]) .ret) .skip)) (.seq (.reg [oM 8 0,oA 2 8]) .ret)))
theorem enter_chars_Lower:EN Zfb [(ResultVar.tmp 2)] 9 164:=acE Tryz.func164 (ann:=Yy)
def K9.w (a0_:Int) (Q:Int→Prop):Prop:=
 Wi.w a0_ (fun r1=>
  if r1 = 2 then
   Q (ior .u8 a0_ 32)
  else
   Q a0_)
theorem K9.ok {a0_:Int} {Q:Int→Prop} (hm:K9.w a0_ Q) (h0:Hp):Zo Tryz.prog n_chars_Lower [(.val (.int .u8 a0_))] h0 (Back h0 (fun r=>(.val (.int .u8 r))) Q):=by
 refine enter_chars_Lower ?_
 unfold K9.w at hm
 have H:=AM.Own.nil h0
 try simp -implicitDefEqProofs (disch:=omega) only [push_cast,seval,Zfb]
 refine Zn (fun h=>Wi.ok hm h) (fun r1 hm=>?_)
 refine sg0 ?_
 refine fkc (fun c1=>?_) fun c1=>?_
 ·replace hm:=ifp hm c1
  refine sg (eq_true c1) ?_
  exact Zb (.inl rfl) (ior .u8 a0_ 32) _ rfl (Zf.refl _ _) H.sub hm
 replace hm:=ifn hm c1
 refine sg (eq_false c1) ?_
 exact Zb (.inl rfl) a0_ _ rfl (Zf.refl _ _) H.sub hm
abbrev n_chars_Low:Nat:=136
noncomputable def ac_chars_Low:AC:=
 (.seq (.reg [oO 2 (.assign (.const (.string (ByteArray.mk #[]))))]) (.seq (.reg [oM 6 0,oO 7 (.convert 9 57 (oT 6)),oA 3 7]) (.seq (.seq (.reg [oM 8 3,oN 9 8 57,oO 10 (.move (oC 0))]) (.block 0 (.loop (.seq (.reg [oO 11 (.binOp .lss 3 (oT 10) (oT 9) 3)]) (.seq (.cond (oT 11) .skip (.exit 0)) (.seq (.block 1 (.seq (.reg [oM 12 10,oI 13 57 8 10,oL 14 5 13,oA 4 12,oA 5 14]) (.reg [oM 15 3,oM 16 4,oM 17 5,oO 18 (oK 164 #[(oT 17)] #[5]),oI 19 57 15 16,oS (.store 5 (oT 19) (oT 18))]))) (.reg [oO 20 (.binOp .add 3 (oT 10) (oC 1) 3),oM 10 20]))))))) (.seq (.reg [oM 21 3,oO 22 (.convert 57 9 (oT 21)),oA 2 22]) .ret))))
theorem enter_chars_Low:EN ac_chars_Low [(ResultVar.tmp 2)] 23 136:=acE Tryz.func136 (ann:=Yy)
def Xla.w (a0_:ByteArray) (Q:ByteArray→Prop):Prop:=
 X2 (σ:=(List Int)×Int) (fun ⟨a1,a2⟩ next1=>
  if a2 < ((Zd a0_).length:Int) then
   (0≤a2) ∧
   ∃ v1:Int,a1[a2.toNat]? = some v1 ∧
   K9.w v1 (fun r1=>
    (I64 (a2+1)) ∧
    next1 (a1.set a2.toNat r1,a2+1))
  else
   Q (Yg a1)) (Zd a0_,0)
theorem Xla.ok {a0_:ByteArray} {Q:ByteArray→Prop} (hm:Xla.w a0_ Q) (h0:Hp):Zo Tryz.prog n_chars_Low [(astr a0_)] h0 (Back h0 (fun r=>(astr r)) Q):=by
 refine enter_chars_Low ?_
 unfold Xla.w at hm
 have H:=AM.Own.nil h0
 try simp -implicitDefEqProofs (disch:=omega) only [push_cast,seval,ac_chars_Low]
 rw [Xma Zmb Ja tab_5]
 refine H.newL (E:=Xj) (Zd a0_) rfl (Zt _) (fun b1 h1 H=>?_)
 refine sg (H.lenE 0 rfl Ja) ?_
 obtain ⟨inv1,mu1,hi1,hs1⟩:=hm
 replace H:=H.pm [0]
 refine Z7 (σ:=((List Int)×Int)×AV×Hp) (fun ⟨⟨a1,a2⟩,x1,h2⟩=>⟨((((List.replicate 23 AV.any).set 3 x1).set 8 x1).set 9 (aint ((Zd a0_).length:Int))).set 10 (aint a2),h2⟩) (fun ⟨⟨a1,a2⟩,x1,h2⟩=>inv1 (a1,a2)∧AM.Own h0 h2 [⟨x1,false,1,a1.map Xj,some (5,0)⟩]) (fun ⟨⟨a1,a2⟩,x1,h2⟩=>mu1 (a1,a2)) ⟨(Zd a0_,0),(.osl b1 1 0 a0_.size),h1⟩ (rtw) ⟨hi1,H⟩ ?_
 rintro ⟨⟨a1,a2⟩,x1,h2⟩ ⟨hi1,H⟩
 have hm:=hs1 _ hi1
 dsimp only at hm H ⊢
 refine sg0 ?_
 refine fkc (fun c1=>?_) fun c1=>?_
 ·replace hm:=ifp hm c1
  refine sg (eq_true c1) ?_
  obtain ⟨z1,v1,i1,hm⟩:=hm
  obtain ⟨b2,o1,rfl,qb,qc,qd,qe⟩:=H.row (k:=a2.toNat) (r:=Xj v1) 0 rfl (gmp i1)
  try rw [List.length_map] at qe
  have q1:=ai qb (ai qc (ai qd (eq_true qe)))
  rw [List.length_map] at H
  refine sg (ai (eq_true c1) (ai (eq_true z1) q1)) ?_
  refine Zn (fun h=>K9.ok hm h) (fun r1 hm=>?_)
  refine sg (ai (eq_true c1) (ai (eq_true z1) q1)) ?_
  have i3:=Z0a r1 i1
  refine H.stL 0 r1 rfl i1 rfl rfl rfl (Nat.le_of_ble_eq_true rfl) rfl (fun h3 H=>?_)
  obtain ⟨w1,hm⟩:=hm
  refine sg (ai (eq_true c1) (ai (eq_true z1) (ai q1 (wrap_i64 _ w1)))) ?_
  replace H:=H.pm [0]
  exact ⟨⟨(a1.set a2.toNat r1,a2+1),(.osl b2 1 0 a1.length),h3⟩,hm.2,⟨hm.1,H⟩,rtw⟩
 replace hm:=ifn hm c1
 refine sg (ai (eq_false c1) (H.text 0 rfl Ja Zmb tab_5)) ?_
 exact Zb (.inl rfl) (Yg a1) _ rfl (Zf.refl _ _) H.sub hm
abbrev W5a:Nat:=176
noncomputable def Jq:AC:=
 (.seq (.reg [oO 2 (.alloc 224),oO 3 (.assign (.const (.bool false)))]) (.seq (.seq (.reg [oO 4 (.assign (oC 0))]) (.block 0 (.loop (.seq (.seq (.reg [oM 6 4,oM 7 0,oN 8 7 9,oO 9 (.binOp .lss 3 (oT 6) (oT 8) 3)]) (.cond (oT 9) .skip (.exit 0))) (.seq (.block 1 (.seq (.reg [oM 12 0,oM 13 4,oO 14 (.index 9 (oT 12) (oT 13)),oA 5 14]) (.seq (.seq (.reg [oM 15 5,oO 16 (.binOp .geq 5 (oT 15) (oD 128) 5)]) (.cond (oT 16) (.seq (.reg [oL 17 224 2,oS (.store 224 (oT 2) (oT 17)),oO 3 (.assign (.const (.bool false)))]) .ret) .skip)) (.reg [oM 18 5,oI 19 224 2 18,oS (.store 4 (oT 19) (.const (.bool true)))])))) (.reg [oM 10 4,oO 11 (.binOp .add 3 (oT 10) (oC 1) 3),oA 4 11])))))) (.seq (.reg [oL 20 224 2,oS (.store 224 (oT 2) (oT 20)),oO 3 (.assign (.const (.bool true)))]) .ret)))
theorem Yna:EN Jq [(ResultVar.cell 2 224),(ResultVar.tmp 3)] 21 176:=acE Tryz.func176 (ann:=Yy)
def Y8.w (a0_:ByteArray) (Q:((List Bool)×Bool)→Prop):Prop:=
 X2 (σ:=(List Bool)×Int) (fun ⟨a1,a2⟩ next1=>
  if a2 < (a0_.size:Int) then
   (0≤a2) ∧
   ∃ v1:UInt8,a0_[a2.toNat]? = some v1 ∧
   if 128≤(v1.toNat:Int) then
    (a1.length = 256) ∧
    (a1.length = 256) ∧
    (a1.length = 256) ∧
    (a1.length = 256) ∧
    Q (a1,false)
   else
    (v1.toNat < 256) ∧
    (v1.toNat < a1.length) ∧
    (I64 (a2+1)) ∧
    next1 (a1.set v1.toNat true,a2+1)
  else
   (a1.length = 256) ∧
   (a1.length = 256) ∧
   (a1.length = 256) ∧
   (a1.length = 256) ∧
   Q (a1,true)) ((List.replicate 256 false:List Bool),0)
theorem Y8.ok {a0_:ByteArray} {Q:((List Bool)×Bool)→Prop} (hm:Y8.w a0_ Q) (h0:Hp):Zo Tryz.prog W5a [(astr a0_)] h0 (Back h0 (fun r=>.tup [(.agg (r.1.map (fun v=>AV.val (Value.bool v)))),(Zk r.2)]) Q):=by
 refine Yna ?_
 unfold Y8.w at hm
 have H:=AM.Own.nil h0
 try simp -implicitDefEqProofs (disch:=omega) only [push_cast,seval,Jq]
 refine H.newR ((List.replicate 256 false:List Bool).map (fun v=>AV.val (Value.bool v))) rfl (fun b1 h1 H=>?_)
 refine sg (H.p 0 rfl) ?_
 obtain ⟨inv1,mu1,hi1,hs1⟩:=hm
 replace H:=H.pm [0]
 refine Z7 (σ:=((List Bool)×Int)×Hp) (fun ⟨⟨a1,a2⟩,h2⟩=>⟨(((List.replicate 21 AV.any).set 0 (astr a0_)).set 2 (.optr b1 256 0 0)).set 4 (aint a2),h2⟩) (fun ⟨⟨a1,a2⟩,h2⟩=>inv1 (a1,a2)∧AM.Own h0 h2 [⟨(.optr b1 256 0 0),true,256,[(a1.map (fun v=>AV.val (Value.bool v)))],some (224,256)⟩]) (fun ⟨⟨a1,a2⟩,h2⟩=>mu1 (a1,a2)) ⟨((List.replicate 256 false:List Bool),0),h1⟩ (rtw) ⟨hi1,H⟩ ?_
 rintro ⟨⟨a1,a2⟩,h2⟩ ⟨hi1,H⟩
 have hm:=hs1 _ hi1
 dsimp only at hm H ⊢
 refine sg (H.p 0 rfl) ?_
 refine fkc (fun c1=>?_) fun c1=>?_
 ·replace hm:=ifp hm c1
  obtain ⟨z1,v1,i1,hm⟩:=hm
  refine sg (ai (eq_true c1) (ai (eq_true z1) (ai i1 (H.p 0 rfl)))) ?_
  refine fkc (fun c2=>?_) fun c2=>?_
  ·replace hm:=ifp hm c2
   obtain ⟨z2,hm⟩:=hm
   have z3:=(Yoa (f:=(fun v=>AV.val (Value.bool v))) z2)
   have F1:=ai (eq_true c1) (ai (eq_true z1) (ai i1 (ai (eq_true c2) z3)))
   try simp -implicitDefEqProofs (disch:=omega) only [push_cast,seval,F1,List.take_of_length_le (Nat.le_of_eq z3),Nat.le_refl,List.drop_zero,List.take_length,H.p 0 rfl]
   obtain ⟨z4,z5,hm⟩:=hm
   refine H.stP 0 (a1.map (fun v=>AV.val (Value.bool v))) rfl rfl rfl (by exact (Yoa (f:=(fun v=>AV.val (Value.bool v))) z4)) (by rw [(Yoa (f:=(fun v=>AV.val (Value.bool v))) z5)]; exact Nat.le_refl _) (by exact arrAll (Yoa (f:=(fun v=>AV.val (Value.bool v))) z5)) (fun h3 H=>?_)
   try simp -implicitDefEqProofs (disch:=omega) only [push_cast,seval,F1,List.take_of_length_le (Nat.le_of_eq z3),Nat.le_refl,List.drop_zero,List.take_length,H.p 0 rfl]
   obtain ⟨z6,hm⟩:=hm
   have z7:=(Yoa (f:=(fun v=>AV.val (Value.bool v))) z6)
   have e0:=H.p 0 rfl
   exact Zb (.inl rfl) (a1,false) (.tup [(.agg (a1.map (fun v=>AV.val (Value.bool v)))),(Zk false)]) (by simp -implicitDefEqProofs (disch:=omega) only [push_cast,seval,Wm,Yqa,Vpa,e0,List.take_of_length_le (Nat.le_of_eq z7),z7,Nat.le_refl,List.drop_zero]) (Zf.refl _ _) H.sub hm
  replace hm:=ifn hm c2
  obtain ⟨z8,z9,hm⟩:=hm
  have F2:=ai (eq_true c1) (ai (eq_true z1) (ai i1 (ai (eq_false c2) (eq_true z8))))
  refine sg (ai F2 (H.p 0 rfl)) ?_
  refine H.stP 0 ((a1.set v1.toNat true).map (fun v=>AV.val (Value.bool v))) rfl rfl rfl rfl (by exact arrLen z9) (by exact arrSet (f:=(fun v=>AV.val (Value.bool v))) z9) (fun h4 H=>?_)
  obtain ⟨w1,hm⟩:=hm
  refine sg (ai F2 (ai (wrap_i64 _ w1) (H.p 0 rfl))) ?_
  replace H:=H.pm [0]
  exact ⟨⟨(a1.set v1.toNat true,a2+1),h4⟩,hm.2,⟨hm.1,H⟩,rtw⟩
 replace hm:=ifn hm c1
 obtain ⟨z10,hm⟩:=hm
 have z11:=(Yoa (f:=(fun v=>AV.val (Value.bool v))) z10)
 try simp -implicitDefEqProofs (disch:=omega) only [push_cast,seval,eq_false c1,List.take_of_length_le (Nat.le_of_eq z11),z11,Nat.le_refl,List.drop_zero,List.take_length,H.p 0 rfl]
 obtain ⟨z12,z13,hm⟩:=hm
 refine H.stP 0 (a1.map (fun v=>AV.val (Value.bool v))) rfl rfl rfl (by exact (Yoa (f:=(fun v=>AV.val (Value.bool v))) z12)) (by rw [(Yoa (f:=(fun v=>AV.val (Value.bool v))) z13)]; exact Nat.le_refl _) (by exact arrAll (Yoa (f:=(fun v=>AV.val (Value.bool v))) z13)) (fun h5 H=>?_)
 try simp -implicitDefEqProofs (disch:=omega) only [push_cast,seval,eq_false c1,List.take_of_length_le (Nat.le_of_eq z11),z11,Nat.le_refl,List.drop_zero,List.take_length,H.p 0 rfl]
 obtain ⟨z14,hm⟩:=hm
 have z15:=(Yoa (f:=(fun v=>AV.val (Value.bool v))) z14)
 have e0:=H.p 0 rfl
 exact Zb (.inl rfl) (a1,true) (.tup [(.agg (a1.map (fun v=>AV.val (Value.bool v)))),(Zk true)]) (by simp -implicitDefEqProofs (disch:=omega) only [push_cast,seval,Wm,Yqa,Vpa,e0,List.take_of_length_le (Nat.le_of_eq z15),z15,Nat.le_refl,List.drop_zero]) (Zf.refl _ _) H.sub hm
abbrev Z4a:Nat:=181
noncomputable def Vx:AC:=
 (.seq (.reg [oO 4 (.assign (.const (.bool false)))]) (.seq (.reg [oM 5 0,oM 6 1,oO 7 (.nilCheck (oT 5)),oI 8 224 7 6,oL 9 4 8,oA 4 9]) .ret))
theorem J6:EN Vx [(ResultVar.tmp 4)] 10 181:=acE Tryz.func181 (ann:=Yy)
def Z3.w (a0_:Int) (c0_:List Bool) (Q:Bool→(List Bool)→Prop):Prop:=
 (0≤a0_) ∧
 (a0_.toNat < 256) ∧
 ∃ v1:Bool,c0_[a0_.toNat]? = some v1 ∧
 Q v1 c0_
theorem Z3.ok {a0_:Int} {c0_:List Bool} {Q:Bool→(List Bool)→Prop} (hm:Z3.w a0_ c0_ Q) {h0 h:Hp} {b0_:Nat} (H:AM.Own h0 h [⟨(.optr b0_ 256 0 0),true,256,[(c0_.map (fun v=>AV.val (Value.bool v)))],some (224,256)⟩]):Zo Tryz.prog Z4a [(.optr b0_ 256 0 0),(.val (.int .u8 a0_))] h (fun e h'=>∃ (r:Bool) (c0':List Bool),e = .ret ((fun r=>(Zk r)) r)∧AM.Own h0 h' [⟨(.optr b0_ 256 0 0),true,256,[(c0'.map (fun v=>AV.val (Value.bool v)))],some (224,256)⟩]∧Q r c0'):=by
 refine J6 ?_
 unfold Z3.w at hm
 obtain ⟨z1,z2,v1,i1,hm⟩:=hm
 try simp -implicitDefEqProofs (disch:=omega) only [push_cast,seval,Vx,eq_true z1,eq_true z2,Kca i1,i1,Option.map_some,H.p 0 rfl]
 replace H:=H.pm [0]
 exact Ym (.inl rfl) (x:=(Zk v1)) rfl (Zf.refl _ _) ⟨v1,c0_,rfl,H,hm⟩
abbrev Y7a:Nat:=178
noncomputable def K0:AC:=
 (.seq (.reg [oO 4 (.assign (.const (.string (ByteArray.mk #[]))))]) (.seq (.block 0 (.loop (.seq (.seq (.reg [oM 5 0,oN 6 5 9,oO 7 (.binOp .gtr 3 (oT 6) (oC 0) 3)]) (.cond (oT 7) .skip (.exit 0))) (.block 1 (.seq (.seq (.reg [oM 8 1,oM 9 0,oM 10 0,oN 11 10 9,oO 12 (.binOp .sub 3 (oT 11) (oC 1) 3),oO 13 (.index 9 (oT 9) (oT 12)),oO 14 (oK 181 #[(oT 8),(oT 13)] #[228,5]),oO 15 (.unOp .not 4 (oT 14))]) (.cond (oT 15) (.exit 0) .skip)) (.reg [oM 16 0,oM 17 0,oN 18 17 9,oO 19 (.binOp .sub 3 (oT 18) (oC 1) 3),oO 20 (.slice 9 (oT 16) none (some (oT 19)) none),oA 0 20])))))) (.seq (.reg [oM 21 0,oA 4 21]) .ret)))
theorem Zxa:EN K0 [(ResultVar.tmp 4)] 22 178:=acE Tryz.func178 (ann:=Yy)
def Ys.w (a0_:ByteArray) (c0_:List Bool) (Q:ByteArray→(List Bool)→Prop):Prop:=
 X2 (σ:=(List Bool)×ByteArray) (fun ⟨a1,a2⟩ next1=>
  if 0 < (a2.size:Int) then
   (I64 ((a2.size:Int) - 1)) ∧
   (0≤(a2.size:Int) - 1) ∧
   ∃ v1:UInt8,a2[((a2.size:Int) - 1).toNat]? = some v1 ∧
   Z3.w (v1.toNat:Int) a1 (fun r1 v2=>
    if (!r1) = true then
     Q a2 v2
    else
     (I64 ((a2.size:Int) - 1)) ∧
     (((a2.size:Int) - 1).toNat≤a2.size) ∧
     next1 (v2,a2.extract 0 (((a2.size:Int) - 1).toNat)))
  else
   Q a2 a1) (c0_,a0_)
theorem Ys.ok {a0_:ByteArray} {c0_:List Bool} {Q:ByteArray→(List Bool)→Prop} (hm:Ys.w a0_ c0_ Q) {h0 h:Hp} {b0_:Nat} (H:AM.Own h0 h [⟨(.optr b0_ 256 0 0),true,256,[(c0_.map (fun v=>AV.val (Value.bool v)))],some (224,256)⟩]):Zo Tryz.prog Y7a [(astr a0_),(.optr b0_ 256 0 0)] h (fun e h'=>∃ (r:ByteArray) (c0':List Bool),e = .ret ((fun r=>(astr r)) r)∧AM.Own h0 h' [⟨(.optr b0_ 256 0 0),true,256,[(c0'.map (fun v=>AV.val (Value.bool v)))],some (224,256)⟩]∧Q r c0'):=by
 refine Zxa ?_
 unfold Ys.w at hm
 try simp -implicitDefEqProofs (disch:=omega) only [push_cast,seval,K0,H.p 0 rfl]
 obtain ⟨inv1,mu1,hi1,hs1⟩:=hm
 replace H:=H.pm [0]
 refine Z7 (σ:=((List Bool)×ByteArray)×Hp) (fun ⟨⟨a1,a2⟩,h1⟩=>⟨((List.replicate 22 AV.any).set 0 (astr a2)).set 1 (.optr b0_ 256 0 0),h1⟩) (fun ⟨⟨a1,a2⟩,h1⟩=>inv1 (a1,a2)∧AM.Own h0 h1 [⟨(.optr b0_ 256 0 0),true,256,[(a1.map (fun v=>AV.val (Value.bool v)))],some (224,256)⟩]) (fun ⟨⟨a1,a2⟩,h1⟩=>mu1 (a1,a2)) ⟨(c0_,a0_),h⟩ (rtw) ⟨hi1,H⟩ ?_
 rintro ⟨⟨a1,a2⟩,h1⟩ ⟨hi1,H⟩
 have hm:=hs1 _ hi1
 dsimp only at hm H ⊢
 refine sg (H.p 0 rfl) ?_
 refine fkc (fun c1=>?_) fun c1=>?_
 ·replace hm:=ifp hm c1
  obtain ⟨w1,z1,v1,i1,hm⟩:=hm
  have F1:=ai (eq_true c1) (ai (wrap_i64 _ w1) (ai (eq_true z1) i1))
  refine sg (ai F1 (H.p 0 rfl)) ?_
  obtain ⟨h2,HF1,hB1⟩:=H.frame [0] (by decide)
  refine Z1 (Z3.ok hm HF1) ?_
  rintro _ h3 ⟨r1,v2,rfl,H',hm⟩
  replace H:=hB1 _ _ rfl H'
  refine sg (ai F1 (H.p 0 rfl)) ?_
  rw [Zw]
  refine ⟨fun c2=>?_,fun c2=>?_⟩
  ·replace hm:=ifp hm c2
   refine sg (ai F1 (ai c2 (H.p 0 rfl))) ?_
   replace H:=H.pm [0]
   exact Ym (.inl rfl) (x:=(astr a2)) rfl (Zf.refl _ _) ⟨a2,v2,rfl,H,hm⟩
  replace hm:=ifn hm (by rw [c2]; exact Bool.false_ne_true)
  obtain ⟨w2,w3,hm⟩:=hm
  have F2:=ai F1 (ai c2 (ai (wrap_i64 _ w2) (eq_true w3)))
  refine sg (ai F2 (H.p 0 rfl)) ?_
  replace H:=H.pm [0]
  exact ⟨⟨(v2,a2.extract 0 (((a2.size:Int) - 1).toNat)),h3⟩,hm.2,⟨hm.1,H⟩,rtw⟩
 replace hm:=ifn hm c1
 refine sg (ai (eq_false c1) (H.p 0 rfl)) ?_
 replace H:=H.pm [0]
 exact Ym (.inl rfl) (x:=(astr a2)) rfl (Zf.refl _ _) ⟨a2,a1,rfl,H,hm⟩
abbrev X5a:Nat:=177
noncomputable def Jg:AC:=
 (.seq (.reg [oO 4 (.assign (.const (.string (ByteArray.mk #[]))))]) (.seq (.block 0 (.loop (.seq (.seq (.reg [oM 5 0,oN 6 5 9,oO 7 (.binOp .gtr 3 (oT 6) (oC 0) 3)]) (.cond (oT 7) .skip (.exit 0))) (.block 1 (.seq (.seq (.reg [oM 8 1,oM 9 0,oO 10 (.index 9 (oT 9) (oC 0)),oO 11 (oK 181 #[(oT 8),(oT 10)] #[228,5]),oO 12 (.unOp .not 4 (oT 11))]) (.cond (oT 12) (.exit 0) .skip)) (.reg [oM 13 0,oO 14 (.slice 9 (oT 13) (some (oC 1)) none none),oA 0 14])))))) (.seq (.reg [oM 15 0,oA 4 15]) .ret)))
theorem Yda:EN Jg [(ResultVar.tmp 4)] 16 177:=acE Tryz.func177 (ann:=Yy)
def Yu.w (a0_:ByteArray) (c0_:List Bool) (Q:ByteArray→(List Bool)→Prop):Prop:=
 X2 (σ:=(List Bool)×ByteArray) (fun ⟨a1,a2⟩ next1=>
  if 0 < (a2.size:Int) then
   ∃ v1:UInt8,a2[0]? = some v1 ∧
   Z3.w (v1.toNat:Int) a1 (fun r1 v2=>
    if (!r1) = true then
     Q a2 v2
    else
     (1≤a2.size) ∧
     next1 (v2,a2.extract 1 a2.size))
  else
   Q a2 a1) (c0_,a0_)
theorem Yu.ok {a0_:ByteArray} {c0_:List Bool} {Q:ByteArray→(List Bool)→Prop} (hm:Yu.w a0_ c0_ Q) {h0 h:Hp} {b0_:Nat} (H:AM.Own h0 h [⟨(.optr b0_ 256 0 0),true,256,[(c0_.map (fun v=>AV.val (Value.bool v)))],some (224,256)⟩]):Zo Tryz.prog X5a [(astr a0_),(.optr b0_ 256 0 0)] h (fun e h'=>∃ (r:ByteArray) (c0':List Bool),e = .ret ((fun r=>(astr r)) r)∧AM.Own h0 h' [⟨(.optr b0_ 256 0 0),true,256,[(c0'.map (fun v=>AV.val (Value.bool v)))],some (224,256)⟩]∧Q r c0'):=by
 refine Yda ?_
 unfold Yu.w at hm
 try simp -implicitDefEqProofs (disch:=omega) only [push_cast,seval,Jg,H.p 0 rfl]
 obtain ⟨inv1,mu1,hi1,hs1⟩:=hm
 replace H:=H.pm [0]
 refine Z7 (σ:=((List Bool)×ByteArray)×Hp) (fun ⟨⟨a1,a2⟩,h1⟩=>⟨((List.replicate 16 AV.any).set 0 (astr a2)).set 1 (.optr b0_ 256 0 0),h1⟩) (fun ⟨⟨a1,a2⟩,h1⟩=>inv1 (a1,a2)∧AM.Own h0 h1 [⟨(.optr b0_ 256 0 0),true,256,[(a1.map (fun v=>AV.val (Value.bool v)))],some (224,256)⟩]) (fun ⟨⟨a1,a2⟩,h1⟩=>mu1 (a1,a2)) ⟨(c0_,a0_),h⟩ (rtw) ⟨hi1,H⟩ ?_
 rintro ⟨⟨a1,a2⟩,h1⟩ ⟨hi1,H⟩
 have hm:=hs1 _ hi1
 dsimp only at hm H ⊢
 refine sg (H.p 0 rfl) ?_
 refine fkc (fun c1=>?_) fun c1=>?_
 ·replace hm:=ifp hm c1
  obtain ⟨v1,i1,hm⟩:=hm
  refine sg (ai (eq_true c1) (ai i1 (H.p 0 rfl))) ?_
  obtain ⟨h2,HF1,hB1⟩:=H.frame [0] (by decide)
  refine Z1 (Z3.ok hm HF1) ?_
  rintro _ h3 ⟨r1,v2,rfl,H',hm⟩
  replace H:=hB1 _ _ rfl H'
  refine sg (ai (eq_true c1) (ai i1 (H.p 0 rfl))) ?_
  rw [Zw]
  refine ⟨fun c2=>?_,fun c2=>?_⟩
  ·replace hm:=ifp hm c2
   refine sg (ai (eq_true c1) (ai i1 (ai c2 (H.p 0 rfl)))) ?_
   replace H:=H.pm [0]
   exact Ym (.inl rfl) (x:=(astr a2)) rfl (Zf.refl _ _) ⟨a2,v2,rfl,H,hm⟩
  replace hm:=ifn hm (by rw [c2]; exact Bool.false_ne_true)
  obtain ⟨w1,hm⟩:=hm
  refine sg (ai (eq_true c1) (ai i1 (ai c2 (ai (eq_true w1) (H.p 0 rfl))))) ?_
  replace H:=H.pm [0]
  exact ⟨⟨(v2,a2.extract 1 a2.size),h3⟩,hm.2,⟨hm.1,H⟩,rtw⟩
 replace hm:=ifn hm c1
 refine sg (ai (eq_false c1) (H.p 0 rfl)) ?_
 replace H:=H.pm [0]
 exact Ym (.inl rfl) (x:=(astr a2)) rfl (Zf.refl _ _) ⟨a2,a1,rfl,H,hm⟩
end Go.Proofs.YtpkhmfedaaoalaaGreatDoor
