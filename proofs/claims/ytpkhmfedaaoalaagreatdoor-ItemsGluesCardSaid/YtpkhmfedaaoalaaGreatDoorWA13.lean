/- ItemsGlues: a part of its proof (packed by a program). -/
import Derived.Test.YtpkhmfedaaoalaaGreatDoorSqz
import Derived.Test.YtpkhmfedaaoalaaGreatDoorHkf
import Derived.Test.YtpkhmfedaaoalaaGreatDoorWA1
import Derived.Test.YtpkhmfedaaoalaaGreatDoorWA12
set_option linter.all false
namespace Go.Proofs.YtpkhmfedaaoalaaGreatDoor
open Go Go.Proofs.YtpkhmfedaaoalaaGreatDoor.AM
set_option maxRecDepth 100000
set_option maxHeartbeats 4000000
abbrev Zvb:Nat:=26
def Kfa:Nat→Ann
 | 2=>{ pure:=[],plan:=(.op 0 (.op 1 (.op 2 (.op 3 (.op 4 (.op 5 (.op 6 (.op 7 (.op 8 (.op 9 (.op 10 (.op 11 (.op 12 (.op 13 (.op 14 (.op 15 .done)))))))))))))))),ghost:=false,post:=false }
 | 6=>{ pure:=[],plan:=(.op 0 (.op 1 (.op 2 (.op 3 (.op 4 (.op 5 (.op 6 (.op 7 (.op 8 (.op 9 (.op 10 (.op 11 .done)))))))))))),ghost:=false,post:=false }
 | 9=>{ pure:=[],plan:=(.op 0 (.op 1 (.op 2 (.op 3 (.op 4 (.op 5 (.op 6 (.op 7 (.op 8 (.op 9 (.op 10 (.op 11 (.op 12 (.op 13 (.op 14 (.op 15 (.op 16 (.op 17 (.op 18 (.op 19 (.op 20 .done))))))))))))))))))))),ghost:=false,post:=false }
 | 11=>{ pure:=[],plan:=(.op 0 (.op 1 (.op 2 (.op 3 (.op 4 (.op 5 (.op 6 (.op 7 (.op 8 (.op 9 (.op 10 (.op 11 (.op 12 .done))))))))))))),ghost:=false,post:=false }
 | _=>{}
noncomputable def Wqa:AC:=
 (.seq (.draw [oM 16 6,oO 17 (.unOp .not 4 (oT 16)),oM 18 17,oG 19 18 false (.load 3 (oT 4)),oG 20 18 false (.move (oT 0)),oG 21 18 false (.nilCheck (oT 20)),oG 22 18 false (.fieldAddr 59 (oT 21) 3),oG 23 18 false (.load 3 (oT 22)),oG 24 18 false (.move (oT 0)),oG 25 18 false (.nilCheck (oT 24)),oG 26 18 false (.fieldAddr 59 (oT 25) 2),oG 27 18 false (.load 57 (oT 26)),oG 28 18 false (.call (.mk (.builtin .len) #[(oT 27)] #[57])),oG 29 18 false (.binOp .add 3 (oT 23) (oT 28) 3),oG 30 18 false (.binOp .neq 3 (oT 19) (oT 29) 3),oO 31 (.pick (oT 18) (.const (.bool true)) (oT 30))] (.op 0 (.op 1 (.op 2 (.op 3 (.op 4 (.op 5 (.op 6 (.op 7 (.op 8 (.op 9 (.op 10 (.op 11 (.op 12 (.op 13 (.op 14 (.op 15 .done))))))))))))))))) (.cond (oT 31) (.seq (.reg [oM 32 0,oO 33 (oK 27 #[(oT 32)] #[56])]) (.reg [oM 34 0,oL 35 3 4,oO 36 (.nilCheck (oT 34)),oF 37 59 36 3,oS (.store 3 (oT 37) (oT 35))])) .skip))
noncomputable def Wna:AC:=
 (.seq (.reg [oF 99 43 5 0,oL 100 3 99,oO 101 (.binOp .eql 3 (oT 100) (oC 2) 3),oM 102 101,oG 103 102 true (.fieldAddr 43 (oT 5) 1),oG 104 102 true (.load 5 (oT 103)),oG 105 102 true (.binOp .eql 5 (oT 104) (oD 110) 5),oO 106 (.pick (oT 102) (oT 105) (.const (.bool false))),oA 98 106]) (.cond (oT 98) (.reg [oM 107 0,oM 108 7,oM 109 0,oO 110 (.nilCheck (oT 109)),oF 111 59 110 0,oF 112 26 111 0,oO 113 (.indexAddr 23 (oT 112) (oC 46)),oL 114 3 113,oO 115 (.call (.mk (.value (oT 108)) #[(oC 4),(oT 114)] #[3,3])),oO 116 (.buildSlice 33 1 #[(0,(oT 115))]),oO 117 (oK 53 #[(oT 107),(oT 116)] #[56,33])]) .skip))
noncomputable def Woa:AC:=
 (.seq (.reg [oF 52 43 5 0,oL 53 3 52,oO 54 (.binOp .eql 3 (oT 53) (oC 1) 3),oM 55 54,oG 56 55 true (.fieldAddr 43 (oT 5) 1),oG 57 55 true (.load 5 (oT 56)),oG 58 55 true (.binOp .eql 5 (oT 57) (oD 32) 5),oO 59 (.pick (oT 55) (oT 58) (.const (.bool false))),oA 51 59]) (.cond (oT 51) (.draw [oM 60 0,oM 61 0,oO 62 (.nilCheck (oT 61)),oF 63 59 62 0,oF 64 26 63 0,oO 65 (.indexAddr 23 (oT 64) (oC 32)),oL 66 3 65,oM 67 0,oO 68 (.nilCheck (oT 67)),oF 69 59 68 0,oF 70 26 69 1,oL 71 3 70,oM 72 0,oO 73 (.nilCheck (oT 72)),oF 74 59 73 0,oF 75 26 74 2,oL 76 3 75,oL 77 3 4,oO 78 (.build 41 #[(0,(oC 2)),(1,(oT 66)),(2,(oT 71)),(3,(oT 76)),(4,(oT 77))]),oO 79 (.buildSlice 33 1 #[(0,(oT 78))]),oO 80 (oK 53 #[(oT 60),(oT 79)] #[56,33])] (.op 0 (.op 1 (.op 2 (.op 3 (.op 4 (.op 5 (.op 6 (.op 7 (.op 8 (.op 9 (.op 10 (.op 11 (.op 12 (.op 13 (.op 14 (.op 15 (.op 16 (.op 17 (.op 18 (.op 19 (.op 20 .done)))))))))))))))))))))) (.seq (.reg [oF 82 43 5 0,oL 83 3 82,oO 84 (.binOp .eql 3 (oT 83) (oC 1) 3),oA 81 84]) (.cond (oT 81) (.draw [oM 85 0,oM 86 7,oM 87 0,oF 88 43 5 1,oL 89 5 88,oO 90 (.nilCheck (oT 87)),oF 91 59 90 0,oF 92 26 91 0,oI 93 23 92 89,oL 94 3 93,oO 95 (.call (.mk (.value (oT 86)) #[(oC 1),(oT 94)] #[3,3])),oO 96 (.buildSlice 33 1 #[(0,(oT 95))]),oO 97 (oK 53 #[(oT 85),(oT 96)] #[56,33])] (.op 0 (.op 1 (.op 2 (.op 3 (.op 4 (.op 5 (.op 6 (.op 7 (.op 8 (.op 9 (.op 10 (.op 11 (.op 12 .done)))))))))))))) Wna))))
noncomputable def Wpa:AC:=
 (.seq Wqa (.seq (.seq (.reg [oM 38 6]) (.cond (oT 38) (.seq (.draw [oM 39 0,oM 40 0,oO 41 (.nilCheck (oT 40)),oF 42 59 41 2,oL 43 57 42,oF 44 43 5 1,oL 45 5 44,oO 46 (.buildSlice 57 1 #[(0,(oT 45))]),oO 47 (.call (.mk (.builtin .append) #[(oT 43),(oT 46)] #[57,57])),oO 48 (.nilCheck (oT 39)),oF 49 59 48 2,oS (.store 57 (oT 49) (oT 47))] (.op 0 (.op 1 (.op 2 (.op 3 (.op 4 (.op 5 (.op 6 (.op 7 (.op 8 (.op 9 (.op 10 (.op 11 .done))))))))))))) .ret) .skip)) (.seq (.reg [oO 50 (.makeFunc (Fn.func 52) #[] #[(oT 4)]),oA 7 50]) (.block 0 Woa))))
noncomputable def Wra:AC:=
 (.seq (.reg [oF 8 43 5 0,oL 9 3 8,oO 10 (.binOp .eql 3 (oT 9) (oC 1) 3),oM 11 10,oG 12 11 true (.fieldAddr 43 (oT 5) 1),oG 13 11 true (.load 5 (oT 12)),oG 14 11 true (oK 33 #[(oT 13)] #[5]),oO 15 (.pick (oT 11) (oT 14) (.const (.bool false))),oA 6 15]) Wpa)
noncomputable def Zta:AC:=
 (.seq (.reg [oO 4 (.box 3 (oT 1)),oO 5 (.box 43 (oT 2))]) Wra)
theorem Wha:EN Zta [] 118 26:=acE Tryz.func26 (ann:=Kfa)
def Xa.w (a0_:Int) (a1_:Ze) (c0_0_:Zg) (c0_1_:List Zh) (c0_2_:List Int) (c0_3_:Int) (Q:Unit→Zg→(List Zh)→(List Int)→Int→Prop):Prop:=
 wcut (α:=Bool) (fun k1=>
  if a1_.Kind = 1 then
   Wy.w a1_.Ch (fun r1=>
    k1 r1)
  else
   k1 false) (fun a1=>
  wcut (α:=(List Zh)×(List Int)×Zg×Int) (fun k2=>
   wcut (α:=Bool) (fun k3=>
    if (!a1) = true then
     k3 true
    else
     (c0_0_.Widths.length = 128) ∧
     (I64 (c0_3_+(c0_2_.length:Int))) ∧
     k3 (decide (¬ (a0_ = c0_3_+(c0_2_.length:Int))))) (fun a6=>
    if a6 = true then
     Yq.w c0_0_ c0_1_ c0_2_ c0_3_ (fun r2 v1 v2 v3 v4=>
      (v1.Widths.length = 128) ∧
      k2 (v2,v3,v1,a0_))
    else
     k2 (c0_1_,c0_2_,c0_0_,c0_3_))) (fun ⟨a2,a3,a4,a5⟩=>
   if a1 = true then
    (a4.Widths.length = 128) ∧
    ((a3.length+([a1_.Ch]:List Int).length) * 1≤140737488355328) ∧
    Q () a4 a2 (a3++([a1_.Ch]:List Int)) a5
   else
    wcut (α:=Bool) (fun k4=>
     if a1_.Kind = 1 then
      k4 (decide (a1_.Ch = 32))
     else
      k4 false) (fun a7=>
     if a7 = true then
      (a4.Widths.length = 128) ∧
      ∃ v5:Int,a4.Widths[32]? = some v5 ∧
      ((a2.length+([(⟨2,v5,a4.Stretch,a4.Shrink,a0_⟩:Zh)]:List Zh).length) * 40≤140737488355328) ∧
      Q () a4 (a2++([(⟨2,v5,a4.Stretch,a4.Shrink,a0_⟩:Zh)]:List Zh)) a3 a5
     else
      if a1_.Kind = 1 then
       (0≤a1_.Ch) ∧
       (a1_.Ch.toNat < 128) ∧
       (a4.Widths.length = 128) ∧
       ∃ v6:Int,a4.Widths[a1_.Ch.toNat]? = some v6 ∧
       Yk.w 1 v6 a0_ (fun r3 v7=>
        ((a2.length+([r3]:List Zh).length) * 40≤140737488355328) ∧
        Q () a4 (a2++([r3]:List Zh)) a3 a5)
      else
       wcut (α:=Bool) (fun k5=>
        if a1_.Kind = 2 then
         k5 (decide (a1_.Ch = 110))
        else
         k5 false) (fun a8=>
        if a8 = true then
         (a4.Widths.length = 128) ∧
         ∃ v8:Int,a4.Widths[46]? = some v8 ∧
         Yk.w 4 v8 a0_ (fun r4 v9=>
          ((a2.length+([r4]:List Zh).length) * 40≤140737488355328) ∧
          Q () a4 (a2++([r4]:List Zh)) a3 a5)
        else
         Q () a4 a2 a3 a5))))
theorem Xa.ok {a0_:Int} {a1_:Ze} {c0_0_:Zg} {c0_1_:List Zh} {c0_2_:List Int} {c0_3_:Int} {Q:Unit→Zg→(List Zh)→(List Int)→Int→Prop} (hm:Xa.w a0_ a1_ c0_0_ c0_1_ c0_2_ c0_3_ Q) {h0 h:Hp} {b0_:Nat} {x0_1_ x0_2_:AV} (H:AM.Own h0 h [⟨x0_1_,false,5,c0_1_.map Zh.enc,some (41,0)⟩,⟨x0_2_,false,1,c0_2_.map Xj,some (5,0)⟩,⟨(.optr b0_ 134 0 0),true,134,[(List.map (fun v=>AV.val (Value.int IntKind.i64 v)) c0_0_.Widths++[(aint c0_0_.Stretch),(aint c0_0_.Shrink),(.isl 2 (c0_0_.Pats.map Zj.enc)),x0_1_,x0_2_,(aint c0_3_)])],some (59,134)⟩]):Zo Tryz.prog Zvb [(.optr b0_ 134 0 0),(aint a0_),(.agg (Ze.enc a1_))] h (fun e h'=>∃ (r:Unit) (c0_0':Zg) (c0_1':List Zh) (c0_2':List Int) (c0_3':Int) (x0_1_':AV) (x0_2_':AV),e = .ret ((fun _=>.tup []) r)∧AM.Own h0 h' [⟨x0_1_',false,5,c0_1'.map Zh.enc,some (41,0)⟩,⟨x0_2_',false,1,c0_2'.map Xj,some (5,0)⟩,⟨(.optr b0_ 134 0 0),true,134,[(List.map (fun v=>AV.val (Value.int IntKind.i64 v)) c0_0'.Widths++[(aint c0_0'.Stretch),(aint c0_0'.Shrink),(.isl 2 (c0_0'.Pats.map Zj.enc)),x0_1_',x0_2_',(aint c0_3')])],some (59,134)⟩]∧Q r c0_0' c0_1' c0_2' c0_3'):=by
 refine Wha ?_
 unfold Xa.w at hm
 try simp -implicitDefEqProofs (disch:=omega) only [push_cast,seval,Zta,H.p 2 rfl]
 refine H.newR [(aint a0_)] rfl (fun b1 h1 H=>?_)
 refine sg (ai (H.p 2 rfl) (H.p 3 rfl)) ?_
 refine H.newR (Ze.enc a1_) rfl (fun b2 h2 H=>?_)
 refine sg (ai (H.p 2 rfl) (ai (H.p 3 rfl) (H.p 4 rfl))) ?_
 obtain ⟨k1,hm,hk1⟩:=Yn hm
 obtain ⟨M1,hM1⟩:∃ M:AM.St→Prop,M = (fun s'=>∃ (a1:Bool) (h3:Hp),Like s'.tm (((((List.replicate 118 none).set 0 (some (.optr b0_ 134 0 0))).set 4 (some (.optr b1 1 0 0))).set 5 (some (.optr b2 3 0 0))).set 6 (some (Zk a1)))∧s'.h = h3∧AM.Own h0 h3 [⟨x0_1_,false,5,c0_1_.map Zh.enc,some (41,0)⟩,⟨x0_2_,false,1,c0_2_.map Xj,some (5,0)⟩,⟨(.optr b0_ 134 0 0),true,134,[(List.map (fun v=>AV.val (Value.int IntKind.i64 v)) c0_0_.Widths++[(aint c0_0_.Stretch),(aint c0_0_.Shrink),(.isl 2 (c0_0_.Pats.map Zj.enc)),x0_1_,x0_2_,(aint c0_3_)])],some (59,134)⟩,⟨(.optr b1 1 0 0),true,1,[[(aint a0_)]],some (3,1)⟩,⟨(.optr b2 3 0 0),true,3,[(Ze.enc a1_)],some (43,3)⟩]∧k1 a1):=⟨_,rfl⟩
 refine Xe M1 ?_ ?_
 ·refine sg (ai (H.p 2 rfl) (ai (H.p 3 rfl) (H.p 4 rfl))) ?_
  refine gfk (fun c1=>?_) fun c1=>?_
  ·replace hm:=ifp hm c1
   refine sg (ai (eq_true c1) (ai (H.p 2 rfl) (ai (H.p 3 rfl) (H.p 4 rfl)))) ?_
   refine Zn (fun h=>Wy.ok hm h) (fun r1 hm=>?_)
   refine sg (ai (eq_true c1) (ai (H.p 2 rfl) (ai (H.p 3 rfl) (H.p 4 rfl)))) ?_
   replace H:=H.pm [0,1,2,3,4]
   subst hM1
   exact ⟨r1,h2,lkt,rfl,H,hm⟩
  replace hm:=ifn hm c1
  refine sg (ai (eq_false c1) (ai (H.p 2 rfl) (ai (H.p 3 rfl) (H.p 4 rfl)))) ?_
  replace H:=H.pm [0,1,2,3,4]
  subst hM1
  exact ⟨false,h2,lkt,rfl,H,hm⟩
 subst hM1
 rintro ⟨tm,h3⟩ ⟨a1,_,hL,rfl,H,hm⟩
 dsimp only at hL H
 obtain ⟨D,rfl⟩:=hL.fill 0
 replace hm:=hk1 _ hm
 refine sg (ai (H.p 2 rfl) (ai (H.p 3 rfl) (H.p 4 rfl))) ?_
 obtain ⟨k2,hm,hk2⟩:=Yn hm
 obtain ⟨M2,hM2⟩:∃ M:AM.St→Prop,M = (fun s'=>∃ (a2:List Zh) (a3:List Int) (a4:Zg) (a5:Int) (x1:AV) (x2:AV) (h4:Hp),Like s'.tm (((((List.replicate 118 none).set 0 (some (.optr b0_ 134 0 0))).set 4 (some (.optr b1 1 0 0))).set 5 (some (.optr b2 3 0 0))).set 6 (some (Zk a1)))∧s'.h = h4∧AM.Own h0 h4 [⟨x1,false,5,a2.map Zh.enc,some (41,0)⟩,⟨x2,false,1,a3.map Xj,some (5,0)⟩,⟨(.optr b0_ 134 0 0),true,134,[(List.map (fun v=>AV.val (Value.int IntKind.i64 v)) a4.Widths++[(aint a4.Stretch),(aint a4.Shrink),(.isl 2 (a4.Pats.map Zj.enc)),x1,x2,(aint a5)])],some (59,134)⟩,⟨(.optr b1 1 0 0),true,1,[[(aint a0_)]],some (3,1)⟩,⟨(.optr b2 3 0 0),true,3,[(Ze.enc a1_)],some (43,3)⟩]∧k2 (a2,a3,a4,a5)):=⟨_,rfl⟩
 refine Xe M2 ?_ ?_
 ·refine sg (ai (H.p 2 rfl) (ai (H.p 3 rfl) (H.p 4 rfl))) ?_
  obtain ⟨k3,hm,hk3⟩:=Yn hm
  obtain ⟨M3,hM3⟩:∃ M:AM.St→Prop,M = (fun s'=>∃ (a6:Bool) (h5:Hp),Like s'.tm ((((((List.replicate 118 none).set 0 (some (.optr b0_ 134 0 0))).set 4 (some (.optr b1 1 0 0))).set 5 (some (.optr b2 3 0 0))).set 6 (some (Zk a1))).set 31 (some (Zk a6)))∧s'.h = h5∧AM.Own h0 h5 [⟨x0_1_,false,5,c0_1_.map Zh.enc,some (41,0)⟩,⟨x0_2_,false,1,c0_2_.map Xj,some (5,0)⟩,⟨(.optr b0_ 134 0 0),true,134,[(List.map (fun v=>AV.val (Value.int IntKind.i64 v)) c0_0_.Widths++[(aint c0_0_.Stretch),(aint c0_0_.Shrink),(.isl 2 (c0_0_.Pats.map Zj.enc)),x0_1_,x0_2_,(aint c0_3_)])],some (59,134)⟩,⟨(.optr b1 1 0 0),true,1,[[(aint a0_)]],some (3,1)⟩,⟨(.optr b2 3 0 0),true,3,[(Ze.enc a1_)],some (43,3)⟩]∧k3 a6):=⟨_,rfl⟩
  refine Xe M3 ?_ ?_
  ·refine sg (ai (H.p 2 rfl) (ai (H.p 3 rfl) (H.p 4 rfl))) ?_
   rw [Xh]
   refine ⟨fun c2=>?_,fun c2=>?_⟩
   ·replace hm:=ifp hm c2
    refine sg (ai c2 (ai (H.p 2 rfl) (ai (H.p 3 rfl) (H.p 4 rfl)))) ?_
    replace H:=H.pm [0,1,2,3,4]
    subst hM3
    exact ⟨true,h3,lkt,rfl,H,hm⟩
   replace hm:=ifn hm (by rw [c2]; exact Bool.false_ne_true)
   obtain ⟨z1,hm⟩:=hm
   have fa1g0:∀ r:List AV,(List.map (fun v=>AV.val (Value.int IntKind.i64 v)) c0_0_.Widths++r)[128]? = r[0]?:=fun r=>Zz (k:=0) z1 r
   have fa1t0:∀ r:List AV,(List.map (fun v=>AV.val (Value.int IntKind.i64 v)) c0_0_.Widths++r).take 129 = List.map (fun v=>AV.val (Value.int IntKind.i64 v)) c0_0_.Widths++r.take 1:=fun r=>Zr (k:=1) z1 r
   have fa1g1:∀ r:List AV,(List.map (fun v=>AV.val (Value.int IntKind.i64 v)) c0_0_.Widths++r)[129]? = r[1]?:=fun r=>Zz (k:=1) z1 r
   have fa1t1:∀ r:List AV,(List.map (fun v=>AV.val (Value.int IntKind.i64 v)) c0_0_.Widths++r).take 130 = List.map (fun v=>AV.val (Value.int IntKind.i64 v)) c0_0_.Widths++r.take 2:=fun r=>Zr (k:=2) z1 r
   have fa1g2:∀ r:List AV,(List.map (fun v=>AV.val (Value.int IntKind.i64 v)) c0_0_.Widths++r)[130]? = r[2]?:=fun r=>Zz (k:=2) z1 r
   have fa1t2:∀ r:List AV,(List.map (fun v=>AV.val (Value.int IntKind.i64 v)) c0_0_.Widths++r).take 131 = List.map (fun v=>AV.val (Value.int IntKind.i64 v)) c0_0_.Widths++r.take 3:=fun r=>Zr (k:=3) z1 r
   have fa1g3:∀ r:List AV,(List.map (fun v=>AV.val (Value.int IntKind.i64 v)) c0_0_.Widths++r)[131]? = r[3]?:=fun r=>Zz (k:=3) z1 r
   have fa1t3:∀ r:List AV,(List.map (fun v=>AV.val (Value.int IntKind.i64 v)) c0_0_.Widths++r).take 132 = List.map (fun v=>AV.val (Value.int IntKind.i64 v)) c0_0_.Widths++r.take 4:=fun r=>Zr (k:=4) z1 r
   have fa1g4:∀ r:List AV,(List.map (fun v=>AV.val (Value.int IntKind.i64 v)) c0_0_.Widths++r)[132]? = r[4]?:=fun r=>Zz (k:=4) z1 r
   have fa1t4:∀ r:List AV,(List.map (fun v=>AV.val (Value.int IntKind.i64 v)) c0_0_.Widths++r).take 133 = List.map (fun v=>AV.val (Value.int IntKind.i64 v)) c0_0_.Widths++r.take 5:=fun r=>Zr (k:=5) z1 r
   have fa1g5:∀ r:List AV,(List.map (fun v=>AV.val (Value.int IntKind.i64 v)) c0_0_.Widths++r)[133]? = r[5]?:=fun r=>Zz (k:=5) z1 r
   have fa1t5:∀ r:List AV,(List.map (fun v=>AV.val (Value.int IntKind.i64 v)) c0_0_.Widths++r).take 134 = List.map (fun v=>AV.val (Value.int IntKind.i64 v)) c0_0_.Widths++r.take 6:=fun r=>Zr (k:=6) z1 r
   obtain ⟨w1,hm⟩:=hm
   have F1:=ai c2 (ai fa1g0 (ai fa1t0 (ai fa1g1 (ai fa1t1 (ai fa1g2 (ai fa1t2 (ai fa1g3 (ai fa1t3 (ai fa1g4 (ai fa1t4 (ai fa1g5 (ai fa1t5 (wrap_i64 _ w1)))))))))))))
   refine sg (ai F1 (ai (Xu (f:=(fun v=>AV.val (Value.int IntKind.i64 v))) z1) (ai (Vb (f:=(fun v=>AV.val (Value.int IntKind.i64 v))) z1) (ai (H.lenE 1 rfl Ja) (ai (H.p 2 rfl) (ai (H.p 3 rfl) (H.p 4 rfl))))))) ?_
   replace H:=H.pm [0,1,2,3,4]
   subst hM3
   exact ⟨decide (¬ (a0_ = c0_3_+(c0_2_.length:Int))),h3,lkt,rfl,H,hm⟩
  subst hM3
  rintro ⟨tm,h5⟩ ⟨a6,_,hL,rfl,H,hm⟩
  dsimp only at hL H
  obtain ⟨D,rfl⟩:=hL.fill 0
  replace hm:=hk3 _ hm
  refine sg (ai (H.p 2 rfl) (ai (H.p 3 rfl) (H.p 4 rfl))) ?_
  rw [Zw]
  refine ⟨fun c3=>?_,fun c3=>?_⟩
  ·replace hm:=ifp hm c3
   refine sg (ai c3 (ai (H.p 2 rfl) (ai (H.p 3 rfl) (H.p 4 rfl)))) ?_
   obtain ⟨h6,HF1,hB1⟩:=H.frame [0,1,2] (by decide)
   refine Z1 (Yq.ok hm HF1) ?_
   rintro _ h7 ⟨r2,v1,v2,v3,v4,x3,x4,rfl,H',hm⟩
   replace H:=hB1 _ _ rfl H'
   obtain ⟨z2,hm⟩:=hm
   have fa2g0:∀ r:List AV,(List.map (fun v=>AV.val (Value.int IntKind.i64 v)) v1.Widths++r)[128]? = r[0]?:=fun r=>Zz (k:=0) z2 r
   have fa2t0:∀ r:List AV,(List.map (fun v=>AV.val (Value.int IntKind.i64 v)) v1.Widths++r).take 129 = List.map (fun v=>AV.val (Value.int IntKind.i64 v)) v1.Widths++r.take 1:=fun r=>Zr (k:=1) z2 r
   have fa2g1:∀ r:List AV,(List.map (fun v=>AV.val (Value.int IntKind.i64 v)) v1.Widths++r)[129]? = r[1]?:=fun r=>Zz (k:=1) z2 r
   have fa2t1:∀ r:List AV,(List.map (fun v=>AV.val (Value.int IntKind.i64 v)) v1.Widths++r).take 130 = List.map (fun v=>AV.val (Value.int IntKind.i64 v)) v1.Widths++r.take 2:=fun r=>Zr (k:=2) z2 r
   have fa2g2:∀ r:List AV,(List.map (fun v=>AV.val (Value.int IntKind.i64 v)) v1.Widths++r)[130]? = r[2]?:=fun r=>Zz (k:=2) z2 r
   have fa2t2:∀ r:List AV,(List.map (fun v=>AV.val (Value.int IntKind.i64 v)) v1.Widths++r).take 131 = List.map (fun v=>AV.val (Value.int IntKind.i64 v)) v1.Widths++r.take 3:=fun r=>Zr (k:=3) z2 r
   have fa2g3:∀ r:List AV,(List.map (fun v=>AV.val (Value.int IntKind.i64 v)) v1.Widths++r)[131]? = r[3]?:=fun r=>Zz (k:=3) z2 r
   have fa2t3:∀ r:List AV,(List.map (fun v=>AV.val (Value.int IntKind.i64 v)) v1.Widths++r).take 132 = List.map (fun v=>AV.val (Value.int IntKind.i64 v)) v1.Widths++r.take 4:=fun r=>Zr (k:=4) z2 r
   have fa2g4:∀ r:List AV,(List.map (fun v=>AV.val (Value.int IntKind.i64 v)) v1.Widths++r)[132]? = r[4]?:=fun r=>Zz (k:=4) z2 r
   have fa2t4:∀ r:List AV,(List.map (fun v=>AV.val (Value.int IntKind.i64 v)) v1.Widths++r).take 133 = List.map (fun v=>AV.val (Value.int IntKind.i64 v)) v1.Widths++r.take 5:=fun r=>Zr (k:=5) z2 r
   have fa2g5:∀ r:List AV,(List.map (fun v=>AV.val (Value.int IntKind.i64 v)) v1.Widths++r)[133]? = r[5]?:=fun r=>Zz (k:=5) z2 r
   have fa2t5:∀ r:List AV,(List.map (fun v=>AV.val (Value.int IntKind.i64 v)) v1.Widths++r).take 134 = List.map (fun v=>AV.val (Value.int IntKind.i64 v)) v1.Widths++r.take 6:=fun r=>Zr (k:=6) z2 r
   refine sg (ai c3 (ai (H.p 2 rfl) (ai (H.p 3 rfl) (H.p 4 rfl)))) ?_
   refine H.stP 2 (List.map (fun v=>AV.val (Value.int IntKind.i64 v)) v1.Widths++[(aint v1.Stretch),(aint v1.Shrink),(.isl 2 (v1.Pats.map Zj.enc)),x3,x4,(aint a0_)]) rfl rfl rfl rfl (by rw [Xu z2]; exact Nat.le_of_ble_eq_true rfl) (by exact arrStA (f:=(fun v=>AV.val (Value.int IntKind.i64 v))) (c:=5) (sz:=1) z2 rfl) (fun h8 H=>?_)
   have F2:=ai c3 (ai fa2g0 (ai fa2t0 (ai fa2g1 (ai fa2t1 (ai fa2g2 (ai fa2t2 (ai fa2g3 (ai fa2t3 (ai fa2g4 (ai fa2t4 (ai fa2g5 fa2t5)))))))))))
   refine sg (ai F2 (ai (Xu (f:=(fun v=>AV.val (Value.int IntKind.i64 v))) z2) (ai (Vb (f:=(fun v=>AV.val (Value.int IntKind.i64 v))) z2) (ai (H.p 2 rfl) (ai (H.p 3 rfl) (H.p 4 rfl)))))) ?_
   replace H:=H.pm [0,1,2,3,4]
   subst hM2
   exact ⟨v2,v3,v1,a0_,x3,x4,h8,lkt,rfl,H,hm⟩
  replace hm:=ifn hm (by rw [c3]; exact Bool.false_ne_true)
  refine sg (ai c3 (ai (H.p 2 rfl) (ai (H.p 3 rfl) (H.p 4 rfl)))) ?_
  replace H:=H.pm [0,1,2,3,4]
  subst hM2
  exact ⟨c0_1_,c0_2_,c0_0_,c0_3_,x0_1_,x0_2_,h5,lkt,rfl,H,hm⟩
 subst hM2
 rintro ⟨tm,h4⟩ ⟨a2,a3,a4,a5,x1,x2,_,hL,rfl,H,hm⟩
 dsimp only at hL H
 obtain ⟨D,rfl⟩:=hL.fill 0
 replace hm:=hk2 _ hm
 refine sg (ai (H.p 2 rfl) (ai (H.p 3 rfl) (H.p 4 rfl))) ?_
 rw [Zw]
 refine ⟨fun c4=>?_,fun c4=>?_⟩
 ·replace hm:=ifp hm c4
  obtain ⟨z3,hm⟩:=hm
  have fa3g0:∀ r:List AV,(List.map (fun v=>AV.val (Value.int IntKind.i64 v)) a4.Widths++r)[128]? = r[0]?:=fun r=>Zz (k:=0) z3 r
  have fa3t0:∀ r:List AV,(List.map (fun v=>AV.val (Value.int IntKind.i64 v)) a4.Widths++r).take 129 = List.map (fun v=>AV.val (Value.int IntKind.i64 v)) a4.Widths++r.take 1:=fun r=>Zr (k:=1) z3 r
  have fa3g1:∀ r:List AV,(List.map (fun v=>AV.val (Value.int IntKind.i64 v)) a4.Widths++r)[129]? = r[1]?:=fun r=>Zz (k:=1) z3 r
  have fa3t1:∀ r:List AV,(List.map (fun v=>AV.val (Value.int IntKind.i64 v)) a4.Widths++r).take 130 = List.map (fun v=>AV.val (Value.int IntKind.i64 v)) a4.Widths++r.take 2:=fun r=>Zr (k:=2) z3 r
  have fa3g2:∀ r:List AV,(List.map (fun v=>AV.val (Value.int IntKind.i64 v)) a4.Widths++r)[130]? = r[2]?:=fun r=>Zz (k:=2) z3 r
  have fa3t2:∀ r:List AV,(List.map (fun v=>AV.val (Value.int IntKind.i64 v)) a4.Widths++r).take 131 = List.map (fun v=>AV.val (Value.int IntKind.i64 v)) a4.Widths++r.take 3:=fun r=>Zr (k:=3) z3 r
  have fa3g3:∀ r:List AV,(List.map (fun v=>AV.val (Value.int IntKind.i64 v)) a4.Widths++r)[131]? = r[3]?:=fun r=>Zz (k:=3) z3 r
  have fa3t3:∀ r:List AV,(List.map (fun v=>AV.val (Value.int IntKind.i64 v)) a4.Widths++r).take 132 = List.map (fun v=>AV.val (Value.int IntKind.i64 v)) a4.Widths++r.take 4:=fun r=>Zr (k:=4) z3 r
  have fa3g4:∀ r:List AV,(List.map (fun v=>AV.val (Value.int IntKind.i64 v)) a4.Widths++r)[132]? = r[4]?:=fun r=>Zz (k:=4) z3 r
  have fa3t4:∀ r:List AV,(List.map (fun v=>AV.val (Value.int IntKind.i64 v)) a4.Widths++r).take 133 = List.map (fun v=>AV.val (Value.int IntKind.i64 v)) a4.Widths++r.take 5:=fun r=>Zr (k:=5) z3 r
  have fa3g5:∀ r:List AV,(List.map (fun v=>AV.val (Value.int IntKind.i64 v)) a4.Widths++r)[133]? = r[5]?:=fun r=>Zz (k:=5) z3 r
  have fa3t5:∀ r:List AV,(List.map (fun v=>AV.val (Value.int IntKind.i64 v)) a4.Widths++r).take 134 = List.map (fun v=>AV.val (Value.int IntKind.i64 v)) a4.Widths++r.take 6:=fun r=>Zr (k:=6) z3 r
  have F3:=ai c4 (ai fa3g0 (ai fa3t0 (ai fa3g1 (ai fa3t1 (ai fa3g2 (ai fa3t2 (ai fa3g3 (ai fa3t3 (ai fa3g4 (ai fa3t4 (ai fa3g5 fa3t5)))))))))))
  have u1:=Xu (f:=(fun v=>AV.val (Value.int IntKind.i64 v))) z3
  have u2:=Vb (f:=(fun v=>AV.val (Value.int IntKind.i64 v))) z3
  refine sg (ai F3 (ai u1 (ai u2 (ai (H.p 2 rfl) (ai (H.p 3 rfl) (H.p 4 rfl)))))) ?_
  refine H.newL (E:=Xj) ([a1_.Ch]:List Int) rfl rfl (fun b3 h9 H=>?_)
  refine sg (ai F3 (ai u1 (ai u2 (ai (H.src (e:=5) 5 rfl) (ai (H.p 2 rfl) (ai (H.p 3 rfl) (H.p 4 rfl))))))) ?_
  obtain ⟨w2,hm⟩:=hm
  refine H.appL (E:=Xj) 1 ([a1_.Ch]:List Int) rfl rfl rfl (by decide) (by decide) w2 (fun x5 h10 H=>?_)
  refine sg (ai F3 (ai u1 (ai u2 (ai (H.p 2 rfl) (ai (H.p 3 rfl) (H.p 4 rfl)))))) ?_
  refine H.stP 2 (List.map (fun v=>AV.val (Value.int IntKind.i64 v)) a4.Widths++[(aint a4.Stretch),(aint a4.Shrink),(.isl 2 (a4.Pats.map Zj.enc)),x1,x5,(aint a5)]) rfl (H.ok 1 rfl).1 (H.ok 1 rfl).2 rfl (by rw [Xu z3]; exact Nat.le_of_ble_eq_true rfl) (by exact arrStA (f:=(fun v=>AV.val (Value.int IntKind.i64 v))) (c:=4) (sz:=1) z3 rfl) (fun h11 H=>?_)
  refine sg (ai F3 (ai u1 (ai u2 (ai (H.p 2 rfl) (ai (H.p 3 rfl) (H.p 4 rfl)))))) ?_
  replace H:=H.pm [0,1,2]
  exact Ym (.inl rfl) (x:=(.tup [])) rfl (Zf.refl _ _) ⟨(),a4,a2,a3++([a1_.Ch]:List Int),a5,x1,x5,rfl,H,hm⟩
 replace hm:=ifn hm (by rw [c4]; exact Bool.false_ne_true)
 refine sg (ai c4 (ai (H.p 2 rfl) (ai (H.p 3 rfl) (H.p 4 rfl)))) ?_
 obtain ⟨k4,hm,hk4⟩:=Yn hm
 obtain ⟨M4,hM4⟩:∃ M:AM.St→Prop,M = (fun s'=>∃ (a7:Bool) (h12:Hp),Like s'.tm ((((((List.replicate 118 none).set 0 (some (.optr b0_ 134 0 0))).set 4 (some (.optr b1 1 0 0))).set 5 (some (.optr b2 3 0 0))).set 7 (some (.fn (.func 52) [] [(.optr b1 1 0 0)]))).set 51 (some (Zk a7)))∧s'.h = h12∧AM.Own h0 h12 [⟨x1,false,5,a2.map Zh.enc,some (41,0)⟩,⟨x2,false,1,a3.map Xj,some (5,0)⟩,⟨(.optr b0_ 134 0 0),true,134,[(List.map (fun v=>AV.val (Value.int IntKind.i64 v)) a4.Widths++[(aint a4.Stretch),(aint a4.Shrink),(.isl 2 (a4.Pats.map Zj.enc)),x1,x2,(aint a5)])],some (59,134)⟩,⟨(.optr b1 1 0 0),true,1,[[(aint a0_)]],some (3,1)⟩,⟨(.optr b2 3 0 0),true,3,[(Ze.enc a1_)],some (43,3)⟩]∧k4 a7):=⟨_,rfl⟩
 refine Xe M4 ?_ ?_
 ·refine sg (ai c4 (ai (H.p 2 rfl) (ai (H.p 3 rfl) (H.p 4 rfl)))) ?_
  refine gfk (fun c5=>?_) fun c5=>?_
  ·replace hm:=ifp hm c5
   refine sg (ai c4 (ai (eq_true c5) (ai (H.p 2 rfl) (ai (H.p 3 rfl) (H.p 4 rfl))))) ?_
   replace H:=H.pm [0,1,2,3,4]
   subst hM4
   exact ⟨decide (a1_.Ch = 32),h4,lkt,rfl,H,hm⟩
  replace hm:=ifn hm c5
  refine sg (ai c4 (ai (eq_false c5) (ai (H.p 2 rfl) (ai (H.p 3 rfl) (H.p 4 rfl))))) ?_
  replace H:=H.pm [0,1,2,3,4]
  subst hM4
  exact ⟨false,h4,lkt,rfl,H,hm⟩
 subst hM4
 rintro ⟨tm,h12⟩ ⟨a7,_,hL,rfl,H,hm⟩
 dsimp only at hL H
 obtain ⟨D,rfl⟩:=hL.fill 0
 replace hm:=hk4 _ hm
 refine sg (ai c4 (ai (H.p 2 rfl) (ai (H.p 3 rfl) (H.p 4 rfl)))) ?_
 rw [Zw]
 refine ⟨fun c6=>?_,fun c6=>?_⟩
 ·replace hm:=ifp hm c6
  obtain ⟨z4,hm⟩:=hm
  have fa4g0:∀ r:List AV,(List.map (fun v=>AV.val (Value.int IntKind.i64 v)) a4.Widths++r)[128]? = r[0]?:=fun r=>Zz (k:=0) z4 r
  have fa4t0:∀ r:List AV,(List.map (fun v=>AV.val (Value.int IntKind.i64 v)) a4.Widths++r).take 129 = List.map (fun v=>AV.val (Value.int IntKind.i64 v)) a4.Widths++r.take 1:=fun r=>Zr (k:=1) z4 r
  have fa4g1:∀ r:List AV,(List.map (fun v=>AV.val (Value.int IntKind.i64 v)) a4.Widths++r)[129]? = r[1]?:=fun r=>Zz (k:=1) z4 r
  have fa4t1:∀ r:List AV,(List.map (fun v=>AV.val (Value.int IntKind.i64 v)) a4.Widths++r).take 130 = List.map (fun v=>AV.val (Value.int IntKind.i64 v)) a4.Widths++r.take 2:=fun r=>Zr (k:=2) z4 r
  have fa4g2:∀ r:List AV,(List.map (fun v=>AV.val (Value.int IntKind.i64 v)) a4.Widths++r)[130]? = r[2]?:=fun r=>Zz (k:=2) z4 r
  have fa4t2:∀ r:List AV,(List.map (fun v=>AV.val (Value.int IntKind.i64 v)) a4.Widths++r).take 131 = List.map (fun v=>AV.val (Value.int IntKind.i64 v)) a4.Widths++r.take 3:=fun r=>Zr (k:=3) z4 r
  have fa4g3:∀ r:List AV,(List.map (fun v=>AV.val (Value.int IntKind.i64 v)) a4.Widths++r)[131]? = r[3]?:=fun r=>Zz (k:=3) z4 r
  have fa4t3:∀ r:List AV,(List.map (fun v=>AV.val (Value.int IntKind.i64 v)) a4.Widths++r).take 132 = List.map (fun v=>AV.val (Value.int IntKind.i64 v)) a4.Widths++r.take 4:=fun r=>Zr (k:=4) z4 r
  have fa4g4:∀ r:List AV,(List.map (fun v=>AV.val (Value.int IntKind.i64 v)) a4.Widths++r)[132]? = r[4]?:=fun r=>Zz (k:=4) z4 r
  have fa4t4:∀ r:List AV,(List.map (fun v=>AV.val (Value.int IntKind.i64 v)) a4.Widths++r).take 133 = List.map (fun v=>AV.val (Value.int IntKind.i64 v)) a4.Widths++r.take 5:=fun r=>Zr (k:=5) z4 r
  have fa4g5:∀ r:List AV,(List.map (fun v=>AV.val (Value.int IntKind.i64 v)) a4.Widths++r)[133]? = r[5]?:=fun r=>Zz (k:=5) z4 r
  have fa4t5:∀ r:List AV,(List.map (fun v=>AV.val (Value.int IntKind.i64 v)) a4.Widths++r).take 134 = List.map (fun v=>AV.val (Value.int IntKind.i64 v)) a4.Widths++r.take 6:=fun r=>Zr (k:=6) z4 r
  obtain ⟨v5,i1,hm⟩:=hm
  have i1a:∀ r:List AV,(List.map (fun v=>AV.val (Value.int IntKind.i64 v)) a4.Widths++r)[32]? = some ((fun v=>AV.val (Value.int IntKind.i64 v)) v5):=fun r=>by simpa using arrAtA (f:=(fun v=>AV.val (Value.int IntKind.i64 v))) i1 r
  have F4:=ai c4 (ai c6 (ai fa4g0 (ai fa4t0 (ai fa4g1 (ai fa4t1 (ai fa4g2 (ai fa4t2 (ai fa4g3 (ai fa4t3 (ai fa4g4 (ai fa4t4 (ai fa4g5 (ai fa4t5 i1a)))))))))))))
  have u3:=Xu (f:=(fun v=>AV.val (Value.int IntKind.i64 v))) z4
  have u4:=Vb (f:=(fun v=>AV.val (Value.int IntKind.i64 v))) z4
  refine sg (ai F4 (ai u3 (ai u4 (ai (H.p 2 rfl) (ai (H.p 3 rfl) (H.p 4 rfl)))))) ?_
  refine H.newL (E:=Zh.enc) ([(⟨2,v5,a4.Stretch,a4.Shrink,a0_⟩:Zh)]:List Zh) rfl rfl (fun b4 h13 H=>?_)
  refine sg (ai F4 (ai u3 (ai u4 (ai (H.p 2 rfl) (ai (H.p 3 rfl) (H.p 4 rfl)))))) ?_
  refine Z1 (Xt ?_) (fun _ _ h=>h)
  try simp -implicitDefEqProofs (disch:=omega) only [push_cast,seval,Xv,F4,u3,u4,List.drop_zero,H.src (e:=41) 5 rfl,H.p 2 rfl,H.p 3 rfl,H.p 4 rfl]
  obtain ⟨w3,hm⟩:=hm
  refine H.appL (E:=Zh.enc) 0 ([(⟨2,v5,a4.Stretch,a4.Shrink,a0_⟩:Zh)]:List Zh) rfl rfl rfl (by decide) (by decide) w3 (fun x6 h14 H=>?_)
  refine sg (ai F4 (ai u3 (ai u4 (ai (H.p 2 rfl) (ai (H.p 3 rfl) (H.p 4 rfl)))))) ?_
  refine H.stP 2 (List.map (fun v=>AV.val (Value.int IntKind.i64 v)) a4.Widths++[(aint a4.Stretch),(aint a4.Shrink),(.isl 2 (a4.Pats.map Zj.enc)),x6,x2,(aint a5)]) rfl (H.ok 0 rfl).1 (H.ok 0 rfl).2 rfl (by rw [Xu z4]; exact Nat.le_of_ble_eq_true rfl) (by exact arrStA (f:=(fun v=>AV.val (Value.int IntKind.i64 v))) (c:=3) (sz:=1) z4 rfl) (fun h15 H=>?_)
  refine sg (ai F4 (ai u3 (ai u4 (ai (H.p 2 rfl) (ai (H.p 3 rfl) (H.p 4 rfl)))))) ?_
  refine Yx (.inr rfl) rfl ?_
  refine sg (ai F4 (ai u3 (ai u4 (ai (H.p 2 rfl) (ai (H.p 3 rfl) (H.p 4 rfl)))))) ?_
  replace H:=H.pm [0,1,2]
  exact Ym (.inr rfl) (x:=(.tup [])) rfl (Zf.refl _ _) ⟨(),a4,a2++([(⟨2,v5,a4.Stretch,a4.Shrink,a0_⟩:Zh)]:List Zh),a3,a5,x6,x2,rfl,H,hm⟩
 replace hm:=ifn hm (by rw [c6]; exact Bool.false_ne_true)
 refine sg (ai c4 (ai c6 (ai (H.p 2 rfl) (ai (H.p 3 rfl) (H.p 4 rfl))))) ?_
 refine fkc (fun c7=>?_) fun c7=>?_
 ·replace hm:=ifp hm c7
  obtain ⟨z5,z6,z7,hm⟩:=hm
  have fa5g0:∀ r:List AV,(List.map (fun v=>AV.val (Value.int IntKind.i64 v)) a4.Widths++r)[128]? = r[0]?:=fun r=>Zz (k:=0) z7 r
  have fa5t0:∀ r:List AV,(List.map (fun v=>AV.val (Value.int IntKind.i64 v)) a4.Widths++r).take 129 = List.map (fun v=>AV.val (Value.int IntKind.i64 v)) a4.Widths++r.take 1:=fun r=>Zr (k:=1) z7 r
  have fa5g1:∀ r:List AV,(List.map (fun v=>AV.val (Value.int IntKind.i64 v)) a4.Widths++r)[129]? = r[1]?:=fun r=>Zz (k:=1) z7 r
  have fa5t1:∀ r:List AV,(List.map (fun v=>AV.val (Value.int IntKind.i64 v)) a4.Widths++r).take 130 = List.map (fun v=>AV.val (Value.int IntKind.i64 v)) a4.Widths++r.take 2:=fun r=>Zr (k:=2) z7 r
  have fa5g2:∀ r:List AV,(List.map (fun v=>AV.val (Value.int IntKind.i64 v)) a4.Widths++r)[130]? = r[2]?:=fun r=>Zz (k:=2) z7 r
  have fa5t2:∀ r:List AV,(List.map (fun v=>AV.val (Value.int IntKind.i64 v)) a4.Widths++r).take 131 = List.map (fun v=>AV.val (Value.int IntKind.i64 v)) a4.Widths++r.take 3:=fun r=>Zr (k:=3) z7 r
  have fa5g3:∀ r:List AV,(List.map (fun v=>AV.val (Value.int IntKind.i64 v)) a4.Widths++r)[131]? = r[3]?:=fun r=>Zz (k:=3) z7 r
  have fa5t3:∀ r:List AV,(List.map (fun v=>AV.val (Value.int IntKind.i64 v)) a4.Widths++r).take 132 = List.map (fun v=>AV.val (Value.int IntKind.i64 v)) a4.Widths++r.take 4:=fun r=>Zr (k:=4) z7 r
  have fa5g4:∀ r:List AV,(List.map (fun v=>AV.val (Value.int IntKind.i64 v)) a4.Widths++r)[132]? = r[4]?:=fun r=>Zz (k:=4) z7 r
  have fa5t4:∀ r:List AV,(List.map (fun v=>AV.val (Value.int IntKind.i64 v)) a4.Widths++r).take 133 = List.map (fun v=>AV.val (Value.int IntKind.i64 v)) a4.Widths++r.take 5:=fun r=>Zr (k:=5) z7 r
  have fa5g5:∀ r:List AV,(List.map (fun v=>AV.val (Value.int IntKind.i64 v)) a4.Widths++r)[133]? = r[5]?:=fun r=>Zz (k:=5) z7 r
  have fa5t5:∀ r:List AV,(List.map (fun v=>AV.val (Value.int IntKind.i64 v)) a4.Widths++r).take 134 = List.map (fun v=>AV.val (Value.int IntKind.i64 v)) a4.Widths++r.take 6:=fun r=>Zr (k:=6) z7 r
  obtain ⟨v6,i2,hm⟩:=hm
  have F5:=ai c4 (ai c6 (ai (eq_true c7) (ai (eq_true z5) (ai (eq_true z6) (ai fa5g0 (ai fa5t0 (ai fa5g1 (ai fa5t1 (ai fa5g2 (ai fa5t2 (ai fa5g3 (ai fa5t3 (ai fa5g4 (ai fa5t4 (ai fa5g5 fa5t5)))))))))))))))
  have u5:=Xu (f:=(fun v=>AV.val (Value.int IntKind.i64 v))) z7
  have u6:=Vb (f:=(fun v=>AV.val (Value.int IntKind.i64 v))) z7
  have u7:=arrAtA (f:=(fun v=>AV.val (Value.int IntKind.i64 v))) i2
  refine sg (ai F5 (ai u5 (ai u6 (ai u7 (ai (H.p 2 rfl) (ai (H.p 3 rfl) (H.p 4 rfl))))))) ?_
  obtain ⟨h16,HF2,hB2⟩:=H.frame [3] (by decide)
  refine Z1 (Yk.ok hm HF2) ?_
  rintro _ h17 ⟨r3,v7,rfl,H',hm⟩
  replace H:=hB2 _ _ rfl H'
  refine sg (ai F5 (ai u5 (ai u6 (ai u7 (ai (H.p 2 rfl) (ai (H.p 3 rfl) (H.p 4 rfl))))))) ?_
  refine H.newL (E:=Zh.enc) ([r3]:List Zh) rfl rfl (fun b5 h18 H=>?_)
  refine sg (ai F5 (ai u5 (ai u6 (ai u7 (ai (H.p 2 rfl) (ai (H.p 3 rfl) (H.p 4 rfl))))))) ?_
  refine Z1 (Xt ?_) (fun _ _ h=>h)
  try simp -implicitDefEqProofs (disch:=omega) only [push_cast,seval,Xv,F5,u5,u6,List.drop_zero,u7,H.src (e:=41) 5 rfl,H.p 2 rfl,H.p 3 rfl,H.p 4 rfl]
  obtain ⟨w4,hm⟩:=hm
  refine H.appL (E:=Zh.enc) 0 ([r3]:List Zh) rfl rfl rfl (by decide) (by decide) w4 (fun x7 h19 H=>?_)
  refine sg (ai F5 (ai u5 (ai u6 (ai u7 (ai (H.p 2 rfl) (ai (H.p 3 rfl) (H.p 4 rfl))))))) ?_
  refine H.stP 2 (List.map (fun v=>AV.val (Value.int IntKind.i64 v)) a4.Widths++[(aint a4.Stretch),(aint a4.Shrink),(.isl 2 (a4.Pats.map Zj.enc)),x7,x2,(aint a5)]) rfl (H.ok 0 rfl).1 (H.ok 0 rfl).2 rfl (by rw [Xu z7]; exact Nat.le_of_ble_eq_true rfl) (by exact arrStA (f:=(fun v=>AV.val (Value.int IntKind.i64 v))) (c:=3) (sz:=1) z7 rfl) (fun h20 H=>?_)
  refine sg (ai F5 (ai u5 (ai u6 (ai u7 (ai (H.p 2 rfl) (ai (H.p 3 rfl) (H.p 4 rfl))))))) ?_
  refine Yx (.inr rfl) rfl ?_
  refine sg (ai F5 (ai u5 (ai u6 (ai u7 (ai (H.p 2 rfl) (ai (H.p 3 rfl) (H.p 4 rfl))))))) ?_
  replace H:=H.pm [0,1,2]
  exact Ym (.inr rfl) (x:=(.tup [])) rfl (Zf.refl _ _) ⟨(),a4,a2++([r3]:List Zh),a3,a5,x7,x2,rfl,H,hm⟩
 replace hm:=ifn hm c7
 refine sg (ai c4 (ai c6 (ai (eq_false c7) (ai (H.p 2 rfl) (ai (H.p 3 rfl) (H.p 4 rfl)))))) ?_
 obtain ⟨k5,hm,hk5⟩:=Yn hm
 obtain ⟨M5,hM5⟩:∃ M:AM.St→Prop,M = (fun s'=>∃ (a8:Bool) (h21:Hp),Like s'.tm ((((List.replicate 118 none).set 0 (some (.optr b0_ 134 0 0))).set 7 (some (.fn (.func 52) [] [(.optr b1 1 0 0)]))).set 98 (some (Zk a8)))∧s'.h = h21∧AM.Own h0 h21 [⟨x1,false,5,a2.map Zh.enc,some (41,0)⟩,⟨x2,false,1,a3.map Xj,some (5,0)⟩,⟨(.optr b0_ 134 0 0),true,134,[(List.map (fun v=>AV.val (Value.int IntKind.i64 v)) a4.Widths++[(aint a4.Stretch),(aint a4.Shrink),(.isl 2 (a4.Pats.map Zj.enc)),x1,x2,(aint a5)])],some (59,134)⟩,⟨(.optr b1 1 0 0),true,1,[[(aint a0_)]],some (3,1)⟩]∧k5 a8):=⟨_,rfl⟩
 refine Xe M5 ?_ ?_
 ·refine sg (ai c4 (ai c6 (ai (eq_false c7) (ai (H.p 2 rfl) (ai (H.p 3 rfl) (H.p 4 rfl)))))) ?_
  refine gfk (fun c8=>?_) fun c8=>?_
  ·replace hm:=ifp hm c8
   refine sg (ai c4 (ai c6 (ai (eq_false c7) (ai (eq_true c8) (ai (H.p 2 rfl) (ai (H.p 3 rfl) (H.p 4 rfl))))))) ?_
   replace H:=H.pm [0,1,2,3]
   subst hM5
   exact ⟨decide (a1_.Ch = 110),h12,lkt,rfl,H,hm⟩
  replace hm:=ifn hm c8
  refine sg (ai c4 (ai c6 (ai (eq_false c7) (ai (eq_false c8) (ai (H.p 2 rfl) (ai (H.p 3 rfl) (H.p 4 rfl))))))) ?_
  replace H:=H.pm [0,1,2,3]
  subst hM5
  exact ⟨false,h12,lkt,rfl,H,hm⟩
 subst hM5
 rintro ⟨tm,h21⟩ ⟨a8,_,hL,rfl,H,hm⟩
 dsimp only at hL H
 obtain ⟨D,rfl⟩:=hL.fill 0
 replace hm:=hk5 _ hm
 refine sg (ai c4 (ai c6 (ai (eq_false c7) (ai (H.p 2 rfl) (H.p 3 rfl))))) ?_
 rw [Zw]
 refine ⟨fun c9=>?_,fun c9=>?_⟩
 ·replace hm:=ifp hm c9
  obtain ⟨z8,hm⟩:=hm
  have fa6g0:∀ r:List AV,(List.map (fun v=>AV.val (Value.int IntKind.i64 v)) a4.Widths++r)[128]? = r[0]?:=fun r=>Zz (k:=0) z8 r
  have fa6t0:∀ r:List AV,(List.map (fun v=>AV.val (Value.int IntKind.i64 v)) a4.Widths++r).take 129 = List.map (fun v=>AV.val (Value.int IntKind.i64 v)) a4.Widths++r.take 1:=fun r=>Zr (k:=1) z8 r
  have fa6g1:∀ r:List AV,(List.map (fun v=>AV.val (Value.int IntKind.i64 v)) a4.Widths++r)[129]? = r[1]?:=fun r=>Zz (k:=1) z8 r
  have fa6t1:∀ r:List AV,(List.map (fun v=>AV.val (Value.int IntKind.i64 v)) a4.Widths++r).take 130 = List.map (fun v=>AV.val (Value.int IntKind.i64 v)) a4.Widths++r.take 2:=fun r=>Zr (k:=2) z8 r
  have fa6g2:∀ r:List AV,(List.map (fun v=>AV.val (Value.int IntKind.i64 v)) a4.Widths++r)[130]? = r[2]?:=fun r=>Zz (k:=2) z8 r
  have fa6t2:∀ r:List AV,(List.map (fun v=>AV.val (Value.int IntKind.i64 v)) a4.Widths++r).take 131 = List.map (fun v=>AV.val (Value.int IntKind.i64 v)) a4.Widths++r.take 3:=fun r=>Zr (k:=3) z8 r
  have fa6g3:∀ r:List AV,(List.map (fun v=>AV.val (Value.int IntKind.i64 v)) a4.Widths++r)[131]? = r[3]?:=fun r=>Zz (k:=3) z8 r
  have fa6t3:∀ r:List AV,(List.map (fun v=>AV.val (Value.int IntKind.i64 v)) a4.Widths++r).take 132 = List.map (fun v=>AV.val (Value.int IntKind.i64 v)) a4.Widths++r.take 4:=fun r=>Zr (k:=4) z8 r
  have fa6g4:∀ r:List AV,(List.map (fun v=>AV.val (Value.int IntKind.i64 v)) a4.Widths++r)[132]? = r[4]?:=fun r=>Zz (k:=4) z8 r
  have fa6t4:∀ r:List AV,(List.map (fun v=>AV.val (Value.int IntKind.i64 v)) a4.Widths++r).take 133 = List.map (fun v=>AV.val (Value.int IntKind.i64 v)) a4.Widths++r.take 5:=fun r=>Zr (k:=5) z8 r
  have fa6g5:∀ r:List AV,(List.map (fun v=>AV.val (Value.int IntKind.i64 v)) a4.Widths++r)[133]? = r[5]?:=fun r=>Zz (k:=5) z8 r
  have fa6t5:∀ r:List AV,(List.map (fun v=>AV.val (Value.int IntKind.i64 v)) a4.Widths++r).take 134 = List.map (fun v=>AV.val (Value.int IntKind.i64 v)) a4.Widths++r.take 6:=fun r=>Zr (k:=6) z8 r
  obtain ⟨v8,i3,hm⟩:=hm
  have i3a:∀ r:List AV,(List.map (fun v=>AV.val (Value.int IntKind.i64 v)) a4.Widths++r)[46]? = some ((fun v=>AV.val (Value.int IntKind.i64 v)) v8):=fun r=>by simpa using arrAtA (f:=(fun v=>AV.val (Value.int IntKind.i64 v))) i3 r
  have F6:=ai c4 (ai c6 (ai (eq_false c7) (ai c9 (ai fa6g0 (ai fa6t0 (ai fa6g1 (ai fa6t1 (ai fa6g2 (ai fa6t2 (ai fa6g3 (ai fa6t3 (ai fa6g4 (ai fa6t4 (ai fa6g5 (ai fa6t5 i3a)))))))))))))))
  have u8:=Xu (f:=(fun v=>AV.val (Value.int IntKind.i64 v))) z8
  have u9:=Vb (f:=(fun v=>AV.val (Value.int IntKind.i64 v))) z8
  refine sg (ai F6 (ai u8 (ai u9 (ai (H.p 2 rfl) (H.p 3 rfl))))) ?_
  obtain ⟨h22,HF3,hB3⟩:=H.frame [3] (by decide)
  refine Z1 (Yk.ok hm HF3) ?_
  rintro _ h23 ⟨r4,v9,rfl,H',hm⟩
  replace H:=hB3 _ _ rfl H'
  refine sg (ai F6 (ai u8 (ai u9 (ai (H.p 2 rfl) (H.p 3 rfl))))) ?_
  refine H.newL (E:=Zh.enc) ([r4]:List Zh) rfl rfl (fun b6 h24 H=>?_)
  refine sg (ai F6 (ai u8 (ai u9 (ai (H.p 2 rfl) (H.p 3 rfl))))) ?_
  refine Z1 (Xt ?_) (fun _ _ h=>h)
  try simp -implicitDefEqProofs (disch:=omega) only [push_cast,seval,Xv,F6,u8,u9,List.drop_zero,H.src (e:=41) 4 rfl,H.p 2 rfl,H.p 3 rfl]
  obtain ⟨w5,hm⟩:=hm
  refine H.appL (E:=Zh.enc) 0 ([r4]:List Zh) rfl rfl rfl (by decide) (by decide) w5 (fun x8 h25 H=>?_)
  refine sg (ai F6 (ai u8 (ai u9 (ai (H.p 2 rfl) (H.p 3 rfl))))) ?_
  refine H.stP 2 (List.map (fun v=>AV.val (Value.int IntKind.i64 v)) a4.Widths++[(aint a4.Stretch),(aint a4.Shrink),(.isl 2 (a4.Pats.map Zj.enc)),x8,x2,(aint a5)]) rfl (H.ok 0 rfl).1 (H.ok 0 rfl).2 rfl (by rw [Xu z8]; exact Nat.le_of_ble_eq_true rfl) (by exact arrStA (f:=(fun v=>AV.val (Value.int IntKind.i64 v))) (c:=3) (sz:=1) z8 rfl) (fun h26 H=>?_)
  refine sg (ai F6 (ai u8 (ai u9 (ai (H.p 2 rfl) (H.p 3 rfl))))) ?_
  refine Yx (.inr rfl) rfl ?_
  refine sg (ai F6 (ai u8 (ai u9 (ai (H.p 2 rfl) (H.p 3 rfl))))) ?_
  replace H:=H.pm [0,1,2]
  exact Ym (.inr rfl) (x:=(.tup [])) rfl (Zf.refl _ _) ⟨(),a4,a2++([r4]:List Zh),a3,a5,x8,x2,rfl,H,hm⟩
 replace hm:=ifn hm (by rw [c9]; exact Bool.false_ne_true)
 refine sg (ai c4 (ai c6 (ai (eq_false c7) (ai c9 (ai (H.p 2 rfl) (H.p 3 rfl)))))) ?_
 replace H:=H.pm [0,1,2]
 exact Ym (.inr rfl) (x:=(.tup [])) rfl (Zf.refl _ _) ⟨(),a4,a2,a3,a5,x1,x2,rfl,H,hm⟩
end Go.Proofs.YtpkhmfedaaoalaaGreatDoor
