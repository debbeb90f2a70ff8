/- ItemsGlues: a part of its proof (packed by a program). -/
import Derived.Test.YtpkhmfedaaoalaaGreatDoorAwk
import Derived.Test.YtpkhmfedaaoalaaGreatDoorWA5
set_option linter.all false
namespace Go.Proofs.YtpkhmfedaaoalaaGreatDoor
open Go Go.Proofs.YtpkhmfedaaoalaaGreatDoor.AM
set_option maxRecDepth 100000
set_option maxHeartbeats 4000000
noncomputable def Xz:AC:=
 (.seq (.reg [oO 4 (.assign (.const (.pointer none)))]) (.seq (.seq (.reg [oM 6 0,oN 7 6 156,oO 8 (.binOp .sub 3 (oT 7) (oC 1) 3),oA 5 8]) (.block 0 (.loop (.seq (.seq (.reg [oM 9 5,oO 10 (.binOp .geq 3 (oT 9) (oC 0) 3)]) (.cond (oT 10) .skip (.exit 0))) (.seq (.block 1 (.seq (.reg [oM 13 1,oM 14 0,oM 15 5,oI 16 156 14 15,oF 17 163 16 0,oL 18 5 17,oO 19 (oK 43 #[(oT 13),(oT 18)] #[9,5]),oO 20 (.binOp .geq 3 (oT 19) (oC 0) 3)]) (.cond (oT 20) (.seq (.reg [oM 21 0,oM 22 5,oI 23 156 21 22,oA 4 23]) .ret) .skip))) (.reg [oM 11 5,oO 12 (.binOp .sub 3 (oT 11) (oC 1) 3),oA 5 12])))))) (.seq (.reg [oO 4 (.assign (.const (.pointer none)))]) .ret)))
theorem Xy:EN Xz [(ResultVar.tmp 4)] 24 120:=acE Tryz.func120 (ann:=Yy)
noncomputable def Ka:AC:=
 (.seq (.reg [oO 2 (.assign (.const (.pointer none)))]) (.seq (.seq (.reg [oM 3 0,oN 4 3 156,oO 5 (.binOp .eql 3 (oT 4) (oC 0) 3)]) (.cond (oT 5) (.seq (.reg [oO 6 (.build 163 #[]),oO 7 (.box 163 (oT 6)),oA 2 7]) .ret) .skip)) (.seq (.reg [oM 8 0,oM 9 0,oN 10 9 156,oO 11 (.binOp .sub 3 (oT 10) (oC 1) 3),oI 12 156 8 11,oA 2 12]) .ret)))
theorem Vv:EN Ka [(ResultVar.tmp 2)] 13 121:=acE Tryz.func121 (ann:=Yy)
abbrev Ysb:Nat:=79
def Jra:Nat→Ann
 | 2=>{ pure:=[],plan:=(.op 0 (.op 1 (.op 2 (.op 3 (.op 4 (.op 5 (.op 6 (.op 7 (.op 8 (.op 9 (.op 10 (.op 11 (.op 12 (.op 13 (.op 14 (.op 15 (.op 16 (.op 17 (.op 18 (.op 19 (.op 20 (.op 21 (.op 22 (.op 23 (.op 24 (.op 25 (.op 26 (.op 27 (.op 28 .done))))))))))))))))))))))))))))),ghost:=false,post:=false }
 | _=>{}
noncomputable def Vga:AC:=
 (.seq (.seq (.reg [oO 43 (.binOp .eql 5 (oT 41) (oD 101) 5),oA 42 43]) (.cond (oT 42) .skip (.reg [oO 44 (.binOp .eql 5 (oT 41) (oD 115) 5),oA 42 44]))) (.cond (oT 42) (.seq (.reg [oM 45 0,oO 46 (.nilCheck (oT 45)),oF 47 158 46 0,oL 48 156 47,oM 49 1,oO 50 (oK 122 #[(oT 48),(oT 49)] #[156,5]),oO 51 (.binOp .eql 3 (oT 50) (oC 0) 3),oA 4 51]) .ret) (.seq (.reg [oO 53 (.binOp .eql 5 (oT 41) (oD 99) 5),oA 52 53]) (.cond (oT 52) (.seq (.reg [oM 54 5,oO 55 (.nilCheck (oT 54)),oF 56 163 55 2,oL 57 3 56,oO 58 (.binOp .lss 3 (oT 57) (oC 8) 3),oA 4 58]) .ret) (.seq (.reg [oO 60 (.binOp .eql 5 (oT 41) (oD 110) 5),oA 59 60]) (.cond (oT 59) (.seq (.reg [oM 61 0,oO 62 (.nilCheck (oT 61)),oF 63 158 62 0,oL 64 156 63,oO 65 (.call (.mk (.value (.func 120)) #[(oT 64),(.const (.string (ByteArray.mk #[49,50,51,112,105])))] #[156,9])),oA 6 65]) (.seq (.reg [oM 66 0,oO 67 (.nilCheck (oT 66)),oF 68 158 67 0,oL 69 156 68,oO 70 (oK 122 #[(oT 69),(oD 110)] #[156,5]),oO 71 (.binOp .eql 3 (oT 70) (oC 0) 3),oM 72 71,oG 73 72 true (.move (oT 0)),oG 74 72 true (.nilCheck (oT 73)),oG 75 72 true (.fieldAddr 158 (oT 74) 0),oG 76 72 true (.load 156 (oT 75)),oG 77 72 true (oK 122 #[(oT 76),(oD 99)] #[156,5]),oG 78 72 true (.binOp .eql 3 (oT 77) (oC 0) 3),oO 79 (.pick (oT 72) (oT 78) (.const (.bool false))),oM 80 79,oG 81 80 true (.move (oT 6)),oG 82 80 true (.binOp .neq 160 (oT 81) (.const (.pointer none)) 160),oO 83 (.pick (oT 80) (oT 82) (.const (.bool false))),oM 84 83,oG 85 84 true (.move (oT 6)),oG 86 84 true (.nilCheck (oT 85)),oG 87 84 true (.fieldAddr 163 (oT 86) 3),oG 88 84 true (.load 3 (oT 87)),oG 89 84 true (.binOp .eql 3 (oT 88) (oC 0) 3),oO 90 (.pick (oT 84) (oT 89) (.const (.bool false))),oA 4 90]) .ret)) .skip))))))
noncomputable def Zi:AC:=
 (.seq (.seq (.draw [oM 12 0,oO 13 (.nilCheck (oT 12)),oF 14 158 13 2,oL 15 153 14,oM 16 5,oO 17 (.nilCheck (oT 16)),oF 18 163 17 0,oL 19 5 18,oM 20 1,oO 21 (.build 167 #[(0,(oT 19)),(1,(oT 20))]),oO 22 (.lookup 153 (oT 15) (oT 21) false),oO 23 (.binOp .eql 3 (oT 22) (oC 0) 3),oM 24 23,oG 25 24 false (.move (oT 5)),oG 26 24 false (.nilCheck (oT 25)),oG 27 24 false (.fieldAddr 163 (oT 26) 0),oG 28 24 false (.load 5 (oT 27)),oG 29 24 false (.binOp .eql 5 (oT 28) (oD 105) 5),oG 30 24 false (.move (oT 29)),oG 31 30 true (.move (oT 5)),oG 32 30 true (.nilCheck (oT 31)),oG 33 30 true (.fieldAddr 163 (oT 32) 4),oG 34 30 true (.load 4 (oT 33)),oG 35 24 false (.pick (oT 30) (oT 34) (.const (.bool false))),oG 36 24 false (.move (oT 35)),oG 37 36 true (.move (oT 1)),oG 38 36 true (.binOp .neq 5 (oT 37) (oD 108) 5),oG 39 24 false (.pick (oT 36) (oT 38) (.const (.bool false))),oO 40 (.pick (oT 24) (.const (.bool true)) (oT 39))] (.op 0 (.op 1 (.op 2 (.op 3 (.op 4 (.op 5 (.op 6 (.op 7 (.op 8 (.op 9 (.op 10 (.op 11 (.op 12 (.op 13 (.op 14 (.op 15 (.op 16 (.op 17 (.op 18 (.op 19 (.op 20 (.op 21 (.op 22 (.op 23 (.op 24 (.op 25 (.op 26 (.op 27 (.op 28 .done)))))))))))))))))))))))))))))) (.cond (oT 40) (.seq (.reg [oO 4 (.assign (.const (.bool false)))]) .ret) .skip)) (.seq (.seq (.reg [oM 41 1]) (.block 0 Vga)) (.seq (.reg [oO 4 (.assign (.const (.bool true)))]) .ret)))
noncomputable def Yfa:AC:=
 (.seq (.reg [oO 4 (.assign (.const (.bool false)))]) (.seq (.reg [oM 7 0,oO 8 (.nilCheck (oT 7)),oF 9 158 8 0,oL 10 156 9,oO 11 (oK 121 #[(oT 10)] #[156]),oA 5 11]) Zi))
theorem W6a:EN Yfa [(ResultVar.tmp 4)] 91 79:=acE Tryz.func79 (ann:=Jra)
def Yi.w (a0_:Int) (c0_0_:List Zc) (c0_1_:List Za) (c0_2_:List (Xb×Int)) (Q:Bool→(List Zc)→(List Za)→Prop):Prop:=
 if (c0_0_.length:Int) = 0 then
  if (aget c0_2_ (⟨0,a0_⟩:Xb)).getD 0 = 0 then
   Q false c0_0_ c0_1_
  else
   wcut (α:=Bool) (fun k1=>
    if a0_ = 101 then
     k1 (decide (a0_ = 101))
    else
     k1 (decide (a0_ = 115))) (fun a1=>
    if a1 = true then
     Zs.w c0_0_ a0_ (fun r1=>
      Q (decide (r1 = 0)) c0_0_ c0_1_)
    else
     if a0_ = 99 then
      Q true c0_0_ c0_1_
     else
      if a0_ = 110 then
       (I64 ((c0_0_.length:Int) - 1)) ∧
       X2 (σ:=(List Zc)×Int) (fun ⟨a2,a3⟩ next1=>
        if 0≤a3 then
         (0≤a3) ∧
         ∃ v1:Zc,a2[a3.toNat]? = some v1 ∧
         strings_IndexByte.w (ByteArray.mk #[49,50,51,112,105]) v1.kind (fun r2=>
          if 0≤r2 then
           Zs.w a2 110 (fun r3=>
            if r3 = 0 then
             Zs.w a2 99 (fun r4=>
              if r4 = 0 then
               Q (decide (v1.note = 0)) a2 c0_1_
              else
               Q false a2 c0_1_)
            else
             Q false a2 c0_1_)
          else
           (I64 (a3 - 1)) ∧
           next1 (a2,a3 - 1))
        else
         Zs.w a2 110 (fun r5=>
          if r5 = 0 then
           Zs.w a2 99 (fun r6=>
            if r6 = 0 then
             Q false a2 c0_1_
            else
             Q false a2 c0_1_)
          else
           Q false a2 c0_1_)) (c0_0_,(c0_0_.length:Int) - 1)
      else
       Q true c0_0_ c0_1_)
 else
  (I64 ((c0_0_.length:Int) - 1)) ∧
  (0≤(c0_0_.length:Int) - 1) ∧
  ∃ v3:Zc,c0_0_[((c0_0_.length:Int) - 1).toNat]? = some v3 ∧
  wcut (α:=Unit) (fun k2=>
   if (aget c0_2_ (⟨v3.kind,a0_⟩:Xb)).getD 0 = 0 then
    Q false c0_0_ c0_1_
   else
    if v3.kind = 105 then
     if v3.past = true then
      if a0_ = 108 then
       k2 ()
      else
       Q false c0_0_ c0_1_
     else
      k2 ()
    else
     k2 ()) (fun _=>
   wcut (α:=Bool) (fun k3=>
    if a0_ = 101 then
     k3 (decide (a0_ = 101))
    else
     k3 (decide (a0_ = 115))) (fun a4=>
    if a4 = true then
     Zs.w c0_0_ a0_ (fun r7=>
      Q (decide (r7 = 0)) c0_0_ c0_1_)
    else
     if a0_ = 99 then
      Q (decide (v3.kids < 8)) c0_0_ c0_1_
     else
      if a0_ = 110 then
       (I64 ((c0_0_.length:Int) - 1)) ∧
       X2 (σ:=Int) (fun a5 next2=>
        if 0≤a5 then
         (0≤a5) ∧
         ∃ v4:Zc,c0_0_[a5.toNat]? = some v4 ∧
         strings_IndexByte.w (ByteArray.mk #[49,50,51,112,105]) v4.kind (fun r8=>
          if 0≤r8 then
           Zs.w c0_0_ 110 (fun r9=>
            if r9 = 0 then
             Zs.w c0_0_ 99 (fun r10=>
              if r10 = 0 then
               Q (decide (v4.note = 0)) c0_0_ c0_1_
              else
               Q false c0_0_ c0_1_)
            else
             Q false c0_0_ c0_1_)
          else
           (I64 (a5 - 1)) ∧
           next2 (a5 - 1))
        else
         Zs.w c0_0_ 110 (fun r11=>
          if r11 = 0 then
           Zs.w c0_0_ 99 (fun r12=>
            if r12 = 0 then
             Q false c0_0_ c0_1_
            else
             Q false c0_0_ c0_1_)
          else
           Q false c0_0_ c0_1_)) ((c0_0_.length:Int) - 1)
      else
       Q true c0_0_ c0_1_))
theorem Yi.ok {a0_:Int} {c0_0_:List Zc} {c0_1_:List Za} {c0_2_:List (Xb×Int)} {Q:Bool→(List Zc)→(List Za)→Prop} (hm:Yi.w a0_ c0_0_ c0_1_ c0_2_ Q) {h0 h:Hp} {b0_ mc0_2_:Nat} {x0_0_ x0_1_:AV} (H:AM.Own h0 h [⟨x0_0_,false,7,c0_0_.map Zc.enc,some (163,0)⟩,⟨x0_1_,false,4,c0_1_.map Za.enc,some (103,0)⟩,⟨(.optr b0_ 3 0 0),true,3,[[x0_0_,x0_1_,(.val (.map (some mc0_2_)))]],some (158,3)⟩]) (hmc0_2_:h0.r mc0_2_ = some (Yo (c0_2_.map fun p=>(Value.agg #[Value.int .u8 p.1.in_,Value.int .u8 p.1.kind],Value.int .i64 p.2)))):Zo Tryz.prog Ysb [(.optr b0_ 3 0 0),(.val (.int .u8 a0_))] h (fun e h'=>∃ (r:Bool) (c0_0':List Zc) (c0_1':List Za) (x0_0_':AV) (x0_1_':AV),e = .ret ((fun r=>(Zk r)) r)∧AM.Own h0 h' [⟨x0_0_',false,7,c0_0'.map Zc.enc,some (163,0)⟩,⟨x0_1_',false,4,c0_1'.map Za.enc,some (103,0)⟩,⟨(.optr b0_ 3 0 0),true,3,[[x0_0_',x0_1_',(.val (.map (some mc0_2_)))]],some (158,3)⟩]∧Q r c0_0' c0_1'):=by
 refine W6a ?_
 unfold Yi.w at hm
 try simp -implicitDefEqProofs (disch:=omega) only [push_cast,seval,Yfa,H.p 2 rfl]
 refine Z1 (Vv ?_) (fun _ _ h=>h)
 try simp -implicitDefEqProofs (disch:=omega) only [push_cast,seval,Ka,H.lenE 0 rfl V1,H.p 2 rfl]
 refine fkc (fun c1=>?_) fun c1=>?_
 ·replace hm:=ifp hm c1
  refine sg (ai (eq_true c1) (H.p 2 rfl)) ?_
  refine H.newR [(.val (.int .u8 0)),(aint 0),(aint 0),(aint 0),(Zk false),(aint 0),(aint 0)] rfl (fun b1 h1 H=>?_)
  refine sg (ai (eq_true c1) (ai (H.p 2 rfl) (H.p 3 rfl))) ?_
  refine Yx (.inl rfl) rfl ?_
  try simp -implicitDefEqProofs (disch:=omega) only [push_cast,seval,eq_true c1,Zi,H.p 2 rfl,H.p 3 rfl]
  refine look_ofR (kv:=fun x=>Value.agg #[Value.int .u8 x.in_,Value.int .u8 x.kind]) (vv:=fun x=>Value.int .i64 x) X8a (fun v=>(aint v)) (fun _=>rfl) 0 rfl tab_153 tab_167 tab_3 (H.sub.r _ _ hmc0_2_) (⟨0,a0_⟩:Xb) (by rfl) ?_
  try simp -implicitDefEqProofs (disch:=omega) only [push_cast,seval,eq_true c1,Zi,H.p 2 rfl,H.p 3 rfl]
  refine gfk' (fun c2=>?_) fun c2=>?_
  ·replace hm:=ifp hm c2
   refine sg (ai (eq_true c1) (ai (eq_true c2) (ai (H.p 2 rfl) (H.p 3 rfl)))) ?_
   replace H:=H.pm [0,1,2]
   exact Ym (.inl rfl) (x:=(Zk false)) rfl (Zf.refl _ _) ⟨false,c0_0_,c0_1_,x0_0_,x0_1_,rfl,H,hm⟩
  replace hm:=ifn hm c2
  try simp -implicitDefEqProofs (disch:=omega) only [push_cast,seval,eq_true c1,Zi,eq_false c2,H.p 2 rfl,H.p 3 rfl]
  obtain ⟨k1,hm,hk1⟩:=Yn hm
  obtain ⟨M1,hM1⟩:∃ M:AM.St→Prop,M = (fun s'=>∃ (a1:Bool) (h2:Hp),Like s'.tm ((((((List.replicate 91 none).set 0 (some (.optr b0_ 3 0 0))).set 1 (some (.val (.int .u8 a0_)))).set 5 (some (.optr b1 7 0 0))).set 41 (some (.val (.int .u8 a0_)))).set 42 (some (Zk a1)))∧s'.h = h2∧AM.Own h0 h2 [⟨x0_0_,false,7,c0_0_.map Zc.enc,some (163,0)⟩,⟨x0_1_,false,4,c0_1_.map Za.enc,some (103,0)⟩,⟨(.optr b0_ 3 0 0),true,3,[[x0_0_,x0_1_,(.val (.map (some mc0_2_)))]],some (158,3)⟩,⟨(.optr b1 7 0 0),true,7,[[(.val (.int .u8 0)),(aint 0),(aint 0),(aint 0),(Zk false),(aint 0),(aint 0)]],some (163,7)⟩]∧k1 a1):=⟨_,rfl⟩
  refine Xe M1 ?_ ?_
  ·try simp -implicitDefEqProofs (disch:=omega) only [push_cast,seval,eq_true c1,Zi,eq_false c2,H.p 2 rfl,H.p 3 rfl]
   refine fkc (fun c3=>?_) fun c3=>?_
   ·replace hm:=ifp hm c3
    try simp -implicitDefEqProofs (disch:=omega) only [push_cast,seval,eq_true c1,Zi,eq_false c2,eq_true c3,H.p 2 rfl,H.p 3 rfl]
    replace H:=H.pm [0,1,2,3]
    subst hM1
    exact ⟨decide (a0_ = 101),h1,lkt,rfl,H,hm⟩
   replace hm:=ifn hm c3
   try simp -implicitDefEqProofs (disch:=omega) only [push_cast,seval,eq_true c1,Zi,eq_false c2,eq_false c3,H.p 2 rfl,H.p 3 rfl]
   replace H:=H.pm [0,1,2,3]
   subst hM1
   exact ⟨decide (a0_ = 115),h1,lkt,rfl,H,hm⟩
  subst hM1
  rintro ⟨tm,h2⟩ ⟨a1,_,hL,rfl,H,hm⟩
  dsimp only at hL H
  obtain ⟨D,rfl⟩:=hL.fill 0
  replace hm:=hk1 _ hm
  try simp -implicitDefEqProofs (disch:=omega) only [push_cast,seval,eq_true c1,Zi,eq_false c2,H.p 2 rfl,H.p 3 rfl]
  rw [Zw]
  refine ⟨fun c4=>?_,fun c4=>?_⟩
  ·replace hm:=ifp hm c4
   try simp -implicitDefEqProofs (disch:=omega) only [push_cast,seval,eq_true c1,Zi,eq_false c2,c4,H.p 2 rfl,H.p 3 rfl]
   refine Kk (fun h=>Zs.ok hm h) (fun _=>rfl) ⟨H.lent 0 rfl,Lent.refl _ _,trivial⟩ (fun r1 hm=>?_)
   refine sg (ai (eq_true c1) (ai (eq_false c2) (ai c4 (ai (H.p 2 rfl) (H.p 3 rfl))))) ?_
   replace H:=H.pm [0,1,2]
   exact Ym (.inl rfl) (x:=(Zk (decide (r1 = 0)))) rfl (Zf.refl _ _) ⟨decide (r1 = 0),c0_0_,c0_1_,x0_0_,x0_1_,rfl,H,hm⟩
  replace hm:=ifn hm (by rw [c4]; exact Bool.false_ne_true)
  try simp -implicitDefEqProofs (disch:=omega) only [push_cast,seval,eq_true c1,Zi,eq_false c2,c4,H.p 2 rfl,H.p 3 rfl]
  refine fkc (fun c5=>?_) fun c5=>?_
  ·replace hm:=ifp hm c5
   refine sg (ai (eq_true c1) (ai (eq_false c2) (ai c4 (ai (eq_true c5) (ai (H.p 2 rfl) (H.p 3 rfl)))))) ?_
   replace H:=H.pm [0,1,2]
   exact Ym (.inl rfl) (x:=(Zk true)) rfl (Zf.refl _ _) ⟨true,c0_0_,c0_1_,x0_0_,x0_1_,rfl,H,hm⟩
  replace hm:=ifn hm c5
  try simp -implicitDefEqProofs (disch:=omega) only [push_cast,seval,eq_true c1,Zi,eq_false c2,c4,eq_false c5,H.p 2 rfl,H.p 3 rfl]
  refine fkc (fun c6=>?_) fun c6=>?_
  ·replace hm:=ifp hm c6
   have F1:=ai (eq_true c1) (ai (eq_false c2) (ai c4 (ai (eq_false c5) (eq_true c6))))
   try simp -implicitDefEqProofs (disch:=omega) only [push_cast,seval,F1,Zi,H.p 2 rfl,H.p 3 rfl]
   refine Z1 (Xy ?_) (fun _ _ h=>h)
   obtain ⟨w1,hm⟩:=hm
   try simp -implicitDefEqProofs (disch:=omega) only [push_cast,seval,Xz,F1,Zi,wrap_i64 _ w1,H.lenE 0 rfl V1,H.p 2 rfl,H.p 3 rfl]
   obtain ⟨inv1,mu1,hi1,hs1⟩:=hm
   replace H:=H.pm [0,1,2]
   refine Z7 (σ:=((List Zc)×Int)×AV×Hp) (fun ⟨⟨a2,a3⟩,x1,h3⟩=>⟨(((List.replicate 24 AV.any).set 0 x1).set 1 (astr (ByteArray.mk #[49,50,51,112,105]))).set 5 (aint a3),h3⟩) (fun ⟨⟨a2,a3⟩,x1,h3⟩=>inv1 (a2,a3)∧AM.Own h0 h3 [⟨x1,false,7,a2.map Zc.enc,some (163,0)⟩,⟨x0_1_,false,4,c0_1_.map Za.enc,some (103,0)⟩,⟨(.optr b0_ 3 0 0),true,3,[[x1,x0_1_,(.val (.map (some mc0_2_)))]],some (158,3)⟩]) (fun ⟨⟨a2,a3⟩,x1,h3⟩=>mu1 (a2,a3)) ⟨(c0_0_,(c0_0_.length:Int) - 1),x0_0_,h2⟩ (rtw) ⟨hi1,H⟩ ?_
   rintro ⟨⟨a2,a3⟩,x1,h3⟩ ⟨hi1,H⟩
   have hm:=hs1 _ hi1
   dsimp only at hm H ⊢
   have F2:=ai (eq_true c1) (ai (eq_false c2) (ai c4 (ai (eq_false c5) (ai (eq_true c6) (wrap_i64 _ w1)))))
   try simp -implicitDefEqProofs (disch:=omega) only [push_cast,seval,F2,Zi,H.p 2 rfl]
   refine fkc (fun c7=>?_) fun c7=>?_
   ·replace hm:=ifp hm c7
    try simp -implicitDefEqProofs (disch:=omega) only [push_cast,seval,F2,Zi,eq_true c7,H.p 2 rfl]
    obtain ⟨z1,v1,i1,hm⟩:=hm
    obtain ⟨b2,o1,rfl,qb,qc,qd,qe⟩:=H.row (k:=a3.toNat) (r:=Zc.enc v1) 0 rfl (gmp i1)
    try rw [List.length_map] at qe
    have q1:=ai qb (ai qc (ai qd (eq_true qe)))
    rw [List.length_map] at H
    try simp -implicitDefEqProofs (disch:=omega) only [push_cast,seval,F2,Zi,eq_true c7,eq_true z1,q1,H.p 2 rfl]
    refine Zn (fun h=>strings_IndexByte.ok hm h) (fun r2 hm=>?_)
    try simp -implicitDefEqProofs (disch:=omega) only [push_cast,seval,F2,Zi,eq_true c7,eq_true z1,q1,H.p 2 rfl]
    refine fkc (fun c8=>?_) fun c8=>?_
    ·replace hm:=ifp hm c8
     have F3:=ai F2 (ai (eq_true c7) (ai (eq_true z1) (eq_true c8)))
     try simp -implicitDefEqProofs (disch:=omega) only [push_cast,seval,F3,Zi,q1,H.p 2 rfl]
     refine Yx (.inl rfl) rfl ?_
     try simp -implicitDefEqProofs (disch:=omega) only [push_cast,seval,F3,Zi,q1,H.p 2 rfl]
     refine Kk (fun h=>Zs.ok hm h) (fun _=>rfl) ⟨H.lent 0 rfl,Lent.refl _ _,trivial⟩ (fun r3 hm=>?_)
     try simp -implicitDefEqProofs (disch:=omega) only [push_cast,seval,F3,Zi,q1,H.p 2 rfl]
     refine gfk (fun c9=>?_) fun c9=>?_
     ·replace hm:=ifp hm c9
      try simp -implicitDefEqProofs (disch:=omega) only [push_cast,seval,F3,Zi,q1,eq_true c9,H.p 2 rfl]
      refine Kk (fun h=>Zs.ok hm h) (fun _=>rfl) ⟨H.lent 0 rfl,Lent.refl _ _,trivial⟩ (fun r4 hm=>?_)
      try simp -implicitDefEqProofs (disch:=omega) only [push_cast,seval,F3,Zi,q1,eq_true c9,H.p 2 rfl]
      refine gfk (fun c10=>?_) fun c10=>?_
      ·replace hm:=ifp hm c10
       refine sg (ai F3 (ai q1 (ai (eq_true c9) (ai (eq_true c10) (H.p 2 rfl))))) ?_
       replace H:=H.pm [0,1,2]
       exact Ym (.inl rfl) (x:=(Zk (decide (v1.note = 0)))) rfl (Zf.refl _ _) ⟨decide (v1.note = 0),a2,c0_1_,(.osl b2 7 0 a2.length),x0_1_,rfl,H,hm⟩
      replace hm:=ifn hm c10
      refine sg (ai F3 (ai q1 (ai (eq_true c9) (ai (eq_false c10) (H.p 2 rfl))))) ?_
      replace H:=H.pm [0,1,2]
      exact Ym (.inl rfl) (x:=(Zk false)) rfl (Zf.refl _ _) ⟨false,a2,c0_1_,(.osl b2 7 0 a2.length),x0_1_,rfl,H,hm⟩
     replace hm:=ifn hm c9
     refine sg (ai F3 (ai q1 (ai (eq_false c9) (H.p 2 rfl)))) ?_
     replace H:=H.pm [0,1,2]
     exact Ym (.inl rfl) (x:=(Zk false)) rfl (Zf.refl _ _) ⟨false,a2,c0_1_,(.osl b2 7 0 a2.length),x0_1_,rfl,H,hm⟩
    replace hm:=ifn hm c8
    obtain ⟨w2,hm⟩:=hm
    have F4:=ai F2 (ai (eq_true c7) (ai (eq_true z1) (ai (eq_false c8) (wrap_i64 _ w2))))
    try simp -implicitDefEqProofs (disch:=omega) only [push_cast,seval,F4,Zi,q1,H.p 2 rfl]
    replace H:=H.pm [0,1,2]
    exact ⟨⟨(a2,a3 - 1),(.osl b2 7 0 a2.length),h3⟩,hm.2,⟨hm.1,H⟩,rtw⟩
   replace hm:=ifn hm c7
   try simp -implicitDefEqProofs (disch:=omega) only [push_cast,seval,F2,Zi,eq_false c7,H.p 2 rfl]
   refine Yx (.inl rfl) rfl ?_
   try simp -implicitDefEqProofs (disch:=omega) only [push_cast,seval,F2,Zi,eq_false c7,H.p 2 rfl]
   refine Kk (fun h=>Zs.ok hm h) (fun _=>rfl) ⟨H.lent 0 rfl,Lent.refl _ _,trivial⟩ (fun r5 hm=>?_)
   try simp -implicitDefEqProofs (disch:=omega) only [push_cast,seval,F2,Zi,eq_false c7,H.p 2 rfl]
   refine gfk (fun c11=>?_) fun c11=>?_
   ·replace hm:=ifp hm c11
    try simp -implicitDefEqProofs (disch:=omega) only [push_cast,seval,F2,Zi,eq_false c7,eq_true c11,H.p 2 rfl]
    refine Kk (fun h=>Zs.ok hm h) (fun _=>rfl) ⟨H.lent 0 rfl,Lent.refl _ _,trivial⟩ (fun r6 hm=>?_)
    try simp -implicitDefEqProofs (disch:=omega) only [push_cast,seval,F2,Zi,eq_false c7,eq_true c11,H.p 2 rfl]
    refine gfk (fun c12=>?_) fun c12=>?_
    ·replace hm:=ifp hm c12
     have F5:=ai F2 (ai (eq_false c7) (ai (eq_true c11) (eq_true c12)))
     refine sg (ai F5 (H.p 2 rfl)) ?_
     replace H:=H.pm [0,1,2]
     exact Ym (.inl rfl) (x:=(Zk false)) rfl (Zf.refl _ _) ⟨false,a2,c0_1_,x1,x0_1_,rfl,H,hm⟩
    replace hm:=ifn hm c12
    have F6:=ai F2 (ai (eq_false c7) (ai (eq_true c11) (eq_false c12)))
    refine sg (ai F6 (H.p 2 rfl)) ?_
    replace H:=H.pm [0,1,2]
    exact Ym (.inl rfl) (x:=(Zk false)) rfl (Zf.refl _ _) ⟨false,a2,c0_1_,x1,x0_1_,rfl,H,hm⟩
   replace hm:=ifn hm c11
   refine sg (ai F2 (ai (eq_false c7) (ai (eq_false c11) (H.p 2 rfl)))) ?_
   replace H:=H.pm [0,1,2]
   exact Ym (.inl rfl) (x:=(Zk false)) rfl (Zf.refl _ _) ⟨false,a2,c0_1_,x1,x0_1_,rfl,H,hm⟩
  replace hm:=ifn hm c6
  have F7:=ai (eq_true c1) (ai (eq_false c2) (ai c4 (ai (eq_false c5) (eq_false c6))))
  refine sg (ai F7 (ai (H.p 2 rfl) (H.p 3 rfl))) ?_
  replace H:=H.pm [0,1,2]
  exact Ym (.inl rfl) (x:=(Zk true)) rfl (Zf.refl _ _) ⟨true,c0_0_,c0_1_,x0_0_,x0_1_,rfl,H,hm⟩
 replace hm:=ifn hm c1
 obtain ⟨w3,hm⟩:=hm
 refine sg (ai (eq_false c1) (ai (wrap_i64 _ w3) (ai (H.lenE 0 rfl V1) (H.p 2 rfl)))) ?_
 obtain ⟨z2,v3,i3,hm⟩:=hm
 obtain ⟨b3,o2,rfl,qb,qc,qd,qe⟩:=H.row (k:=((c0_0_.length:Int) - 1).toNat) (r:=Zc.enc v3) 0 rfl (gmp i3)
 try rw [List.length_map] at qe
 have q5:=ai qb (ai qc (ai qd (eq_true qe)))
 rw [List.length_map] at H
 refine sg (ai (eq_false c1) (ai (wrap_i64 _ w3) (ai (eq_true z2) (ai q5 (H.p 2 rfl))))) ?_
 refine Yx (.inl rfl) rfl ?_
 refine sg (ai (eq_false c1) (ai (wrap_i64 _ w3) (ai (eq_true z2) (ai q5 (H.p 2 rfl))))) ?_
 obtain ⟨k2,hm,hk2⟩:=Yn hm
 obtain ⟨M2,hM2⟩:∃ M:AM.St→Prop,M = (fun s'=>∃ (h4:Hp),Like s'.tm ((((List.replicate 91 none).set 0 (some (.optr b0_ 3 0 0))).set 1 (some (.val (.int .u8 a0_)))).set 5 (some (.optr b3 7 (((c0_0_.length:Int) - 1).toNat) 0)))∧s'.h = h4∧AM.Own h0 h4 [⟨(.osl b3 7 0 c0_0_.length),false,7,c0_0_.map Zc.enc,some (163,0)⟩,⟨x0_1_,false,4,c0_1_.map Za.enc,some (103,0)⟩,⟨(.optr b0_ 3 0 0),true,3,[[(.osl b3 7 0 c0_0_.length),x0_1_,(.val (.map (some mc0_2_)))]],some (158,3)⟩]∧k2 ()):=⟨_,rfl⟩
 refine Xe M2 ?_ ?_
 ·refine sg (ai (eq_false c1) (ai (wrap_i64 _ w3) (ai (eq_true z2) (ai q5 (H.p 2 rfl))))) ?_
  refine look_ofR (kv:=fun x=>Value.agg #[Value.int .u8 x.in_,Value.int .u8 x.kind]) (vv:=fun x=>Value.int .i64 x) X8a (fun v=>(aint v)) (fun _=>rfl) 0 rfl tab_153 tab_167 tab_3 (H.sub.r _ _ hmc0_2_) (⟨v3.kind,a0_⟩:Xb) (by rfl) ?_
  refine sg (ai (eq_false c1) (ai (wrap_i64 _ w3) (ai (eq_true z2) (ai q5 (H.p 2 rfl))))) ?_
  refine gfk' (fun c13=>?_) fun c13=>?_
  ·replace hm:=ifp hm c13
   have F8:=ai (eq_false c1) (ai (wrap_i64 _ w3) (ai (eq_true z2) (eq_true c13)))
   refine sg (ai F8 (ai q5 (H.p 2 rfl))) ?_
   replace H:=H.pm [0,1,2]
   exact Ym (.inl rfl) (x:=(Zk false)) rfl (Zf.refl _ _) ⟨false,c0_0_,c0_1_,(.osl b3 7 0 c0_0_.length),x0_1_,rfl,H,hm⟩
  replace hm:=ifn hm c13
  have F9:=ai (eq_false c1) (ai (wrap_i64 _ w3) (ai (eq_true z2) (eq_false c13)))
  refine sg (ai F9 (ai q5 (H.p 2 rfl))) ?_
  refine gfk (fun c14=>?_) fun c14=>?_
  ·replace hm:=ifp hm c14
   refine sg (ai F9 (ai q5 (ai (eq_true c14) (H.p 2 rfl)))) ?_
   rw [Kh]
   refine ⟨fun c15=>?_,fun c15=>?_⟩
   ·replace hm:=ifp hm c15
    refine sg (ai F9 (ai q5 (ai (eq_true c14) (ai c15 (H.p 2 rfl))))) ?_
    refine fkc (fun c16=>?_) fun c16=>?_
    ·replace hm:=ifn hm c16
     have F10:=ai F9 (ai (eq_true c14) (ai c15 (eq_false c16)))
     refine sg (ai F10 (ai q5 (H.p 2 rfl))) ?_
     replace H:=H.pm [0,1,2]
     exact Ym (.inl rfl) (x:=(Zk false)) rfl (Zf.refl _ _) ⟨false,c0_0_,c0_1_,(.osl b3 7 0 c0_0_.length),x0_1_,rfl,H,hm⟩
    replace c16:=Decidable.not_not.1 c16
    replace hm:=ifp hm c16
    have F11:=ai F9 (ai (eq_true c14) (ai c15 (eq_true c16)))
    refine sg (ai F11 (ai q5 (H.p 2 rfl))) ?_
    replace H:=H.pm [0,1,2]
    subst hM2
    exact ⟨h,lkt,rfl,H,hm⟩
   replace hm:=ifn hm (by rw [c15]; exact Bool.false_ne_true)
   refine sg (ai F9 (ai q5 (ai (eq_true c14) (ai c15 (H.p 2 rfl))))) ?_
   replace H:=H.pm [0,1,2]
   subst hM2
   exact ⟨h,lkt,rfl,H,hm⟩
  replace hm:=ifn hm c14
  refine sg (ai F9 (ai q5 (ai (eq_false c14) (H.p 2 rfl)))) ?_
  replace H:=H.pm [0,1,2]
  subst hM2
  exact ⟨h,lkt,rfl,H,hm⟩
 subst hM2
 rintro ⟨tm,h4⟩ ⟨_,hL,rfl,H,hm⟩
 dsimp only at hL H
 obtain ⟨D,rfl⟩:=hL.fill 0
 replace hm:=hk2 _ hm
 refine sg (ai (eq_false c1) (ai (wrap_i64 _ w3) (ai (eq_true z2) (ai q5 (H.p 2 rfl))))) ?_
 obtain ⟨k3,hm,hk3⟩:=Yn hm
 obtain ⟨M3,hM3⟩:∃ M:AM.St→Prop,M = (fun s'=>∃ (a4:Bool) (h5:Hp),Like s'.tm ((((((List.replicate 91 none).set 0 (some (.optr b0_ 3 0 0))).set 1 (some (.val (.int .u8 a0_)))).set 5 (some (.optr b3 7 (((c0_0_.length:Int) - 1).toNat) 0))).set 41 (some (.val (.int .u8 a0_)))).set 42 (some (Zk a4)))∧s'.h = h5∧AM.Own h0 h5 [⟨(.osl b3 7 0 c0_0_.length),false,7,c0_0_.map Zc.enc,some (163,0)⟩,⟨x0_1_,false,4,c0_1_.map Za.enc,some (103,0)⟩,⟨(.optr b0_ 3 0 0),true,3,[[(.osl b3 7 0 c0_0_.length),x0_1_,(.val (.map (some mc0_2_)))]],some (158,3)⟩]∧k3 a4):=⟨_,rfl⟩
 refine Xe M3 ?_ ?_
 ·refine sg (ai (eq_false c1) (ai (wrap_i64 _ w3) (ai (eq_true z2) (ai q5 (H.p 2 rfl))))) ?_
  refine fkc (fun c17=>?_) fun c17=>?_
  ·replace hm:=ifp hm c17
   have F12:=ai (eq_false c1) (ai (wrap_i64 _ w3) (ai (eq_true z2) (eq_true c17)))
   refine sg (ai F12 (ai q5 (H.p 2 rfl))) ?_
   replace H:=H.pm [0,1,2]
   subst hM3
   exact ⟨decide (a0_ = 101),h4,lkt,rfl,H,hm⟩
  replace hm:=ifn hm c17
  have F13:=ai (eq_false c1) (ai (wrap_i64 _ w3) (ai (eq_true z2) (eq_false c17)))
  refine sg (ai F13 (ai q5 (H.p 2 rfl))) ?_
  replace H:=H.pm [0,1,2]
  subst hM3
  exact ⟨decide (a0_ = 115),h4,lkt,rfl,H,hm⟩
 subst hM3
 rintro ⟨tm,h5⟩ ⟨a4,_,hL,rfl,H,hm⟩
 dsimp only at hL H
 obtain ⟨D,rfl⟩:=hL.fill 0
 replace hm:=hk3 _ hm
 refine sg (ai (eq_false c1) (ai (wrap_i64 _ w3) (ai (eq_true z2) (ai q5 (H.p 2 rfl))))) ?_
 rw [Zw]
 refine ⟨fun c18=>?_,fun c18=>?_⟩
 ·replace hm:=ifp hm c18
  have F14:=ai (eq_false c1) (ai (wrap_i64 _ w3) (ai (eq_true z2) c18))
  refine sg (ai F14 (ai q5 (H.p 2 rfl))) ?_
  refine Kk (fun h=>Zs.ok hm h) (fun _=>rfl) ⟨H.lent 0 rfl,Lent.refl _ _,trivial⟩ (fun r7 hm=>?_)
  refine sg (ai F14 (ai q5 (H.p 2 rfl))) ?_
  replace H:=H.pm [0,1,2]
  exact Ym (.inl rfl) (x:=(Zk (decide (r7 = 0)))) rfl (Zf.refl _ _) ⟨decide (r7 = 0),c0_0_,c0_1_,(.osl b3 7 0 c0_0_.length),x0_1_,rfl,H,hm⟩
 replace hm:=ifn hm (by rw [c18]; exact Bool.false_ne_true)
 have F15:=ai (eq_false c1) (ai (wrap_i64 _ w3) (ai (eq_true z2) c18))
 refine sg (ai F15 (ai q5 (H.p 2 rfl))) ?_
 refine fkc (fun c19=>?_) fun c19=>?_
 ·replace hm:=ifp hm c19
  obtain ⟨o3,qb,qc,qd,qe⟩:=H.rowX (k:=((c0_0_.length:Int) - 1).toNat) (r:=Zc.enc v3) 0 rfl (gmp i3)
  try rw [List.length_map] at qe
  have q9:=ai qb (ai qc (ai qd (eq_true qe)))
  refine sg (ai F15 (ai q5 (ai (eq_true c19) (ai q9 (H.p 2 rfl))))) ?_
  replace H:=H.pm [0,1,2]
  exact Ym (.inl rfl) (x:=(Zk (decide (v3.kids < 8)))) rfl (Zf.refl _ _) ⟨decide (v3.kids < 8),c0_0_,c0_1_,(.osl b3 7 0 c0_0_.length),x0_1_,rfl,H,hm⟩
 replace hm:=ifn hm c19
 refine sg (ai F15 (ai q5 (ai (eq_false c19) (H.p 2 rfl)))) ?_
 refine fkc (fun c20=>?_) fun c20=>?_
 ·replace hm:=ifp hm c20
  refine sg (ai F15 (ai q5 (ai (eq_false c19) (ai (eq_true c20) (H.p 2 rfl))))) ?_
  refine Z1 (Xy ?_) (fun _ _ h=>h)
  obtain ⟨w4,hm⟩:=hm
  have F16:=ai F15 (ai (eq_false c19) (ai (eq_true c20) (wrap_i64 _ w4)))
  try simp -implicitDefEqProofs (disch:=omega) only [push_cast,seval,Xz,F16,q5,H.lenE 0 rfl V1,H.p 2 rfl]
  obtain ⟨inv2,mu2,hi2,hs2⟩:=hm
  replace H:=H.pm [0,1,2]
  refine Z7 (σ:=Int×Hp) (fun ⟨a5,h6⟩=>⟨(((List.replicate 24 AV.any).set 0 (.osl b3 7 0 c0_0_.length)).set 1 (astr (ByteArray.mk #[49,50,51,112,105]))).set 5 (aint a5),h6⟩) (fun ⟨a5,h6⟩=>inv2 a5∧AM.Own h0 h6 [⟨(.osl b3 7 0 c0_0_.length),false,7,c0_0_.map Zc.enc,some (163,0)⟩,⟨x0_1_,false,4,c0_1_.map Za.enc,some (103,0)⟩,⟨(.optr b0_ 3 0 0),true,3,[[(.osl b3 7 0 c0_0_.length),x0_1_,(.val (.map (some mc0_2_)))]],some (158,3)⟩]) (fun ⟨a5,h6⟩=>mu2 a5) ⟨(c0_0_.length:Int) - 1,h5⟩ (rtw) ⟨hi2,H⟩ ?_
  rintro ⟨a5,h6⟩ ⟨hi2,H⟩
  have hm:=hs2 _ hi2
  dsimp only at hm H ⊢
  have F17:=ai (eq_false c1) (ai (wrap_i64 _ w3) (ai (eq_true z2) (ai c18 (ai (eq_false c19) (ai (eq_true c20) (wrap_i64 _ w4))))))
  refine sg (ai F17 (ai q5 (H.p 2 rfl))) ?_
  refine fkc (fun c21=>?_) fun c21=>?_
  ·replace hm:=ifp hm c21
   refine sg (ai F17 (ai q5 (ai (eq_true c21) (H.p 2 rfl)))) ?_
   obtain ⟨z3,v4,i4,hm⟩:=hm
   obtain ⟨o4,qb,qc,qd,qe⟩:=H.rowX (k:=a5.toNat) (r:=Zc.enc v4) 0 rfl (gmp i4)
   try rw [List.length_map] at qe
   have q13:=ai qb (ai qc (ai qd (eq_true qe)))
   refine sg (ai F17 (ai q5 (ai (eq_true c21) (ai (eq_true z3) (ai q13 (H.p 2 rfl)))))) ?_
   refine Zn (fun h=>strings_IndexByte.ok hm h) (fun r8 hm=>?_)
   refine sg (ai F17 (ai q5 (ai (eq_true c21) (ai (eq_true z3) (ai q13 (H.p 2 rfl)))))) ?_
   refine fkc (fun c22=>?_) fun c22=>?_
   ·replace hm:=ifp hm c22
    have F18:=ai F17 (ai (eq_true c21) (ai (eq_true z3) (eq_true c22)))
    refine sg (ai F18 (ai q5 (ai q13 (H.p 2 rfl)))) ?_
    refine Yx (.inl rfl) rfl ?_
    refine sg (ai F18 (ai q5 (ai q13 (H.p 2 rfl)))) ?_
    refine Kk (fun h=>Zs.ok hm h) (fun _=>rfl) ⟨H.lent 0 rfl,Lent.refl _ _,trivial⟩ (fun r9 hm=>?_)
    refine sg (ai F18 (ai q5 (ai q13 (H.p 2 rfl)))) ?_
    refine gfk (fun c23=>?_) fun c23=>?_
    ·replace hm:=ifp hm c23
     refine sg (ai F18 (ai q5 (ai q13 (ai (eq_true c23) (H.p 2 rfl))))) ?_
     refine Kk (fun h=>Zs.ok hm h) (fun _=>rfl) ⟨H.lent 0 rfl,Lent.refl _ _,trivial⟩ (fun r10 hm=>?_)
     refine sg (ai F18 (ai q5 (ai q13 (ai (eq_true c23) (H.p 2 rfl))))) ?_
     refine gfk (fun c24=>?_) fun c24=>?_
     ·replace hm:=ifp hm c24
      refine sg (ai F18 (ai q5 (ai q13 (ai (eq_true c23) (ai (eq_true c24) (H.p 2 rfl)))))) ?_
      replace H:=H.pm [0,1,2]
      exact Ym (.inl rfl) (x:=(Zk (decide (v4.note = 0)))) rfl (Zf.refl _ _) ⟨decide (v4.note = 0),c0_0_,c0_1_,(.osl b3 7 0 c0_0_.length),x0_1_,rfl,H,hm⟩
     replace hm:=ifn hm c24
     refine sg (ai F18 (ai q5 (ai q13 (ai (eq_true c23) (ai (eq_false c24) (H.p 2 rfl)))))) ?_
     replace H:=H.pm [0,1,2]
     exact Ym (.inl rfl) (x:=(Zk false)) rfl (Zf.refl _ _) ⟨false,c0_0_,c0_1_,(.osl b3 7 0 c0_0_.length),x0_1_,rfl,H,hm⟩
    replace hm:=ifn hm c23
    refine sg (ai F18 (ai q5 (ai q13 (ai (eq_false c23) (H.p 2 rfl))))) ?_
    replace H:=H.pm [0,1,2]
    exact Ym (.inl rfl) (x:=(Zk false)) rfl (Zf.refl _ _) ⟨false,c0_0_,c0_1_,(.osl b3 7 0 c0_0_.length),x0_1_,rfl,H,hm⟩
   replace hm:=ifn hm c22
   obtain ⟨w5,hm⟩:=hm
   have F19:=ai F17 (ai (eq_true c21) (ai (eq_true z3) (ai (eq_false c22) (wrap_i64 _ w5))))
   refine sg (ai F19 (ai q5 (ai q13 (H.p 2 rfl)))) ?_
   replace H:=H.pm [0,1,2]
   exact ⟨⟨a5 - 1,h6⟩,hm.2,⟨hm.1,H⟩,rtw⟩
  replace hm:=ifn hm c21
  refine sg (ai F17 (ai q5 (ai (eq_false c21) (H.p 2 rfl)))) ?_
  refine Yx (.inl rfl) rfl ?_
  refine sg (ai F17 (ai q5 (ai (eq_false c21) (H.p 2 rfl)))) ?_
  refine Kk (fun h=>Zs.ok hm h) (fun _=>rfl) ⟨H.lent 0 rfl,Lent.refl _ _,trivial⟩ (fun r11 hm=>?_)
  refine sg (ai F17 (ai q5 (ai (eq_false c21) (H.p 2 rfl)))) ?_
  refine gfk (fun c25=>?_) fun c25=>?_
  ·replace hm:=ifp hm c25
   refine sg (ai F17 (ai q5 (ai (eq_false c21) (ai (eq_true c25) (H.p 2 rfl))))) ?_
   refine Kk (fun h=>Zs.ok hm h) (fun _=>rfl) ⟨H.lent 0 rfl,Lent.refl _ _,trivial⟩ (fun r12 hm=>?_)
   refine sg (ai F17 (ai q5 (ai (eq_false c21) (ai (eq_true c25) (H.p 2 rfl))))) ?_
   refine gfk (fun c26=>?_) fun c26=>?_
   ·replace hm:=ifp hm c26
    have F20:=ai F17 (ai (eq_false c21) (ai (eq_true c25) (eq_true c26)))
    refine sg (ai F20 (ai q5 (H.p 2 rfl))) ?_
    replace H:=H.pm [0,1,2]
    exact Ym (.inl rfl) (x:=(Zk false)) rfl (Zf.refl _ _) ⟨false,c0_0_,c0_1_,(.osl b3 7 0 c0_0_.length),x0_1_,rfl,H,hm⟩
   replace hm:=ifn hm c26
   have F21:=ai F17 (ai (eq_false c21) (ai (eq_true c25) (eq_false c26)))
   refine sg (ai F21 (ai q5 (H.p 2 rfl))) ?_
   replace H:=H.pm [0,1,2]
   exact Ym (.inl rfl) (x:=(Zk false)) rfl (Zf.refl _ _) ⟨false,c0_0_,c0_1_,(.osl b3 7 0 c0_0_.length),x0_1_,rfl,H,hm⟩
  replace hm:=ifn hm c25
  refine sg (ai F17 (ai q5 (ai (eq_false c21) (ai (eq_false c25) (H.p 2 rfl))))) ?_
  replace H:=H.pm [0,1,2]
  exact Ym (.inl rfl) (x:=(Zk false)) rfl (Zf.refl _ _) ⟨false,c0_0_,c0_1_,(.osl b3 7 0 c0_0_.length),x0_1_,rfl,H,hm⟩
 replace hm:=ifn hm c20
 refine sg (ai F15 (ai q5 (ai (eq_false c19) (ai (eq_false c20) (H.p 2 rfl))))) ?_
 replace H:=H.pm [0,1,2]
 exact Ym (.inl rfl) (x:=(Zk true)) rfl (Zf.refl _ _) ⟨true,c0_0_,c0_1_,(.osl b3 7 0 c0_0_.length),x0_1_,rfl,H,hm⟩
end Go.Proofs.YtpkhmfedaaoalaaGreatDoor
