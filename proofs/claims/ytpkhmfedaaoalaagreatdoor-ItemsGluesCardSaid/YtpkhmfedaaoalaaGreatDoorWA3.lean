/- ItemsGlues: a part of its proof (packed by a program). -/
import Derived.Test.YtpkhmfedaaoalaaGreatDoorAwk
set_option linter.all false
namespace Go.Proofs.YtpkhmfedaaoalaaGreatDoor
open Go Go.Proofs.YtpkhmfedaaoalaaGreatDoor.AM
set_option maxRecDepth 100000
set_option maxHeartbeats 4000000
abbrev Yvb:Nat:=17
noncomputable def Yia:AC:=
 (.seq (.reg [oO 2 (.assign (.const (.slice none 0 0)))]) (.seq (.reg [oM 11 0,oO 12 (oK 34 #[(oT 11)] #[9]),oM 10 12,oO 13 (.extract (oT 10) 0),oO 14 (.extract (oT 10) 1),oO 15 (.extract (oT 10) 2),oA 3 13,oA 4 14,oA 5 15]) (.seq (.reg [oM 17 3,oO 18 (oK 35 #[(oT 17)] #[51]),oM 16 18,oO 19 (.extract (oT 16) 0),oO 20 (.extract (oT 16) 1),oA 6 19,oA 7 20]) (.seq (.reg [oM 22 6,oO 23 (oK 36 #[(oT 22)] #[51]),oM 21 23,oO 24 (.extract (oT 21) 0),oO 25 (.extract (oT 21) 1),oA 8 24,oA 9 25]) (.seq (.reg [oM 26 8,oA 2 26]) .ret)))))
theorem W9a:EN Yia [(ResultVar.tmp 2)] 27 17:=acE Tryz.func17 (ann:=Yy)
def Yt.w (a0_:ByteArray) (Q:(List Ze)→Prop):Prop:=
 Xc.w a0_ (fun r1=>
  Wb.w r1.1 (fun r2=>
   Wa.w r2.1 (fun r3=>
    Q r3.1)))
theorem Yt.ok {a0_:ByteArray} {Q:(List Ze)→Prop} (hm:Yt.w a0_ Q) (h0:Hp):Zo Tryz.prog Yvb [(astr a0_)] h0 (Back h0 (fun r=>(.isl 3 (r.map Ze.enc))) Q):=by
 refine W9a ?_
 unfold Yt.w at hm
 have H:=AM.Own.nil h0
 try simp -implicitDefEqProofs (disch:=omega) only [push_cast,seval,Yia]
 refine Zn (fun h=>Xc.ok hm h) (fun r1 hm=>?_)
 refine sg0 ?_
 refine Zn (fun h=>Wb.ok hm h) (fun r2 hm=>?_)
 refine sg0 ?_
 refine Zn (fun h=>Wa.ok hm h) (fun r3 hm=>?_)
 refine sg0 ?_
 exact Zb (.inl rfl) r3.1 _ rfl (Zf.refl _ _) H.sub hm
abbrev n_flat_grown_take:Nat:=40
def Z7b:Nat→Ann
 | 7=>{ pure:=[],plan:=(.op 0 (.op 1 (.op 2 (.op 3 (.op 4 (.op 5 (.op 6 (.op 7 (.op 8 (.op 9 (.op 10 (.op 11 (.op 12 .done))))))))))))),ghost:=false,post:=false }
 | 8=>{ pure:=[],plan:=(.op 0 (.op 1 (.op 2 (.op 3 (.op 4 (.op 5 (.op 6 (.op 7 (.op 8 (.op 9 (.op 10 (.op 11 (.op 12 (.op 13 (.op 14 (.op 15 (.op 16 (.op 17 (.op 18 (.op 19 (.op 20 .done))))))))))))))))))))),ghost:=false,post:=false }
 | 10=>{ pure:=[],plan:=(.op 0 (.op 1 (.op 2 (.op 3 (.op 4 (.op 5 (.op 6 (.op 7 (.op 8 (.op 9 (.op 10 (.op 11 (.op 12 (.op 13 (.op 14 (.op 15 (.op 16 .done))))))))))))))))),ghost:=false,post:=false }
 | 11=>{ pure:=[],plan:=(.op 0 (.op 1 (.op 2 (.op 3 (.op 4 (.op 5 (.op 6 (.op 7 (.op 8 (.op 9 (.op 10 (.op 11 (.op 12 (.op 13 (.op 14 .done))))))))))))))),ghost:=false,post:=false }
 | 13=>{ pure:=[],plan:=(.op 0 (.op 1 (.op 2 (.op 3 (.op 4 (.op 5 (.op 6 (.op 7 (.op 8 (.op 9 (.op 10 (.op 11 (.op 12 (.op 13 (.op 14 (.op 15 (.op 16 (.op 17 (.op 18 (.op 19 (.op 20 (.op 21 (.op 22 (.op 23 (.op 24 .done))))))))))))))))))))))))),ghost:=false,post:=false }
 | 15=>{ pure:=[],plan:=(.op 0 (.op 1 (.op 2 (.op 3 (.op 4 (.op 5 (.op 6 (.op 7 (.op 8 (.op 9 (.op 10 (.op 11 (.op 12 (.op 13 .done)))))))))))))),ghost:=false,post:=false }
 | 16=>{ pure:=[],plan:=(.op 0 (.op 1 (.op 2 (.op 3 (.op 4 (.op 5 (.op 6 (.op 7 (.op 8 (.op 9 (.op 10 (.op 11 (.op 12 (.op 13 (.op 14 .done))))))))))))))),ghost:=false,post:=false }
 | 17=>{ pure:=[],plan:=(.op 0 (.op 1 (.op 2 (.op 3 (.op 4 (.op 5 (.op 6 (.op 7 (.op 8 (.op 9 (.op 10 (.op 11 (.op 12 (.op 13 (.op 14 (.op 15 (.op 16 .done))))))))))))))))),ghost:=false,post:=false }
 | _=>{}
noncomputable def Ksa:AC:=
 (.seq (.seq (.reg [oM 21 5,oO 22 (.unOp .not 4 (oT 21))]) (.cond (oT 22) (.draw [oM 23 0,oM 24 0,oO 25 (.nilCheck (oT 24)),oF 26 74 25 0,oL 27 51 26,oF 28 43 3 2,oL 29 3 28,oO 30 (.build 103 #[(0,(oD 46)),(2,(oT 29)),(3,(oC 1))]),oO 31 (.buildSlice 51 1 #[(0,(oT 30))]),oO 32 (.call (.mk (.builtin .append) #[(oT 27),(oT 31)] #[51,51])),oO 33 (.nilCheck (oT 23)),oF 34 74 33 0,oS (.store 51 (oT 34) (oT 32))] (.op 0 (.op 1 (.op 2 (.op 3 (.op 4 (.op 5 (.op 6 (.op 7 (.op 8 (.op 9 (.op 10 (.op 11 (.op 12 .done)))))))))))))) .skip)) (.draw [oM 35 0,oO 36 (.nilCheck (oT 35)),oF 37 74 36 0,oL 38 51 37,oM 39 0,oO 40 (.nilCheck (oT 39)),oF 41 74 40 0,oL 42 51 41,oN 43 42 51,oO 44 (.binOp .sub 3 (oT 43) (oC 1) 3),oI 45 51 38 44,oF 46 103 45 1,oL 47 9 46,oF 48 43 3 1,oL 49 5 48,oO 50 (.buildSlice 57 1 #[(0,(oT 49))]),oO 51 (.convert 57 9 (oT 50)),oO 52 (.binOp .add 9 (oT 47) (oT 51) 9),oI 53 51 38 44,oF 54 103 53 1,oS (.store 9 (oT 54) (oT 52))] (.op 0 (.op 1 (.op 2 (.op 3 (.op 4 (.op 5 (.op 6 (.op 7 (.op 8 (.op 9 (.op 10 (.op 11 (.op 12 (.op 13 (.op 14 (.op 15 (.op 16 (.op 17 (.op 18 (.op 19 (.op 20 .done)))))))))))))))))))))))
noncomputable def Yva:AC:=
 (.seq (.reg [oO 3 (.box 43 (oT 1)),oO 4 (.assign (.const (.bool false)))]) (.seq (.reg [oM 7 0,oO 8 (.nilCheck (oT 7)),oF 9 74 8 2,oL 10 4 9,oA 5 10]) (.seq (.reg [oM 11 0,oF 12 43 3 0,oL 13 3 12,oO 14 (.binOp .eql 3 (oT 13) (oC 1) 3),oO 15 (.nilCheck (oT 11)),oF 16 74 15 2,oS (.store 4 (oT 16) (oT 14))]) (.seq (.seq (.reg [oF 17 43 3 0,oL 18 3 17]) (.block 0 (.seq (.reg [oO 20 (.binOp .eql 3 (oT 18) (oC 1) 3),oA 19 20]) (.cond (oT 19) Ksa (.seq (.reg [oO 56 (.binOp .eql 3 (oT 18) (oC 2) 3),oA 55 56]) (.cond (oT 55) (.seq (.draw [oM 57 0,oM 58 0,oO 59 (.nilCheck (oT 58)),oF 60 74 59 1,oL 61 72 60,oL 62 43 3,oM 63 0,oO 64 (.nilCheck (oT 63)),oF 65 74 64 0,oL 66 51 65,oN 67 66 51,oO 68 (.build 110 #[(0,(oT 62)),(1,(oT 67))]),oO 69 (.buildSlice 72 1 #[(0,(oT 68))]),oO 70 (.call (.mk (.builtin .append) #[(oT 61),(oT 69)] #[72,72])),oO 71 (.nilCheck (oT 57)),oF 72 74 71 1,oS (.store 72 (oT 72) (oT 70))] (.op 0 (.op 1 (.op 2 (.op 3 (.op 4 (.op 5 (.op 6 (.op 7 (.op 8 (.op 9 (.op 10 (.op 11 (.op 12 (.op 13 (.op 14 (.op 15 (.op 16 .done)))))))))))))))))) (.draw [oM 73 0,oM 74 0,oO 75 (.nilCheck (oT 74)),oF 76 74 75 0,oL 77 51 76,oF 78 43 3 1,oL 79 5 78,oF 80 43 3 2,oL 81 3 80,oO 82 (.build 103 #[(0,(oT 79)),(2,(oT 81)),(3,(oC 1))]),oO 83 (.buildSlice 51 1 #[(0,(oT 82))]),oO 84 (.call (.mk (.builtin .append) #[(oT 77),(oT 83)] #[51,51])),oO 85 (.nilCheck (oT 73)),oF 86 74 85 0,oS (.store 51 (oT 86) (oT 84))] (.op 0 (.op 1 (.op 2 (.op 3 (.op 4 (.op 5 (.op 6 (.op 7 (.op 8 (.op 9 (.op 10 (.op 11 (.op 12 (.op 13 (.op 14 .done))))))))))))))))) (.seq (.reg [oO 88 (.binOp .eql 3 (oT 18) (oC 3) 3),oA 87 88]) (.cond (oT 87) (.seq (.seq (.draw [oM 89 0,oO 90 (.nilCheck (oT 89)),oF 91 74 90 1,oL 92 72 91,oN 93 92 72,oO 94 (.binOp .eql 3 (oT 93) (oC 0) 3),oM 95 94,oG 96 95 false (.move (oT 0)),oG 97 95 false (.nilCheck (oT 96)),oG 98 95 false (.fieldAddr 74 (oT 97) 1),oG 99 95 false (.load 72 (oT 98)),oG 100 95 false (.move (oT 0)),oG 101 95 false (.nilCheck (oT 100)),oG 102 95 false (.fieldAddr 74 (oT 101) 1),oG 103 95 false (.load 72 (oT 102)),oG 104 95 false (.call (.mk (.builtin .len) #[(oT 103)] #[72])),oG 105 95 false (.binOp .sub 3 (oT 104) (oC 1) 3),oG 106 95 false (.indexAddr 72 (oT 99) (oT 105)),oG 107 95 false (.fieldAddr 110 (oT 106) 0),oG 108 95 false (.fieldAddr 43 (oT 107) 1),oG 109 95 false (.load 5 (oT 108)),oG 110 95 false (.fieldAddr 43 (oT 3) 1),oG 111 95 false (.load 5 (oT 110)),oG 112 95 false (.binOp .neq 5 (oT 109) (oT 111) 5),oO 113 (.pick (oT 95) (.const (.bool true)) (oT 112))] (.op 0 (.op 1 (.op 2 (.op 3 (.op 4 (.op 5 (.op 6 (.op 7 (.op 8 (.op 9 (.op 10 (.op 11 (.op 12 (.op 13 (.op 14 (.op 15 (.op 16 (.op 17 (.op 18 (.op 19 (.op 20 (.op 21 (.op 22 (.op 23 (.op 24 .done)))))))))))))))))))))))))) (.cond (oT 113) (.seq (.reg [oO 4 (.assign (.const (.bool false)))]) .ret) .skip)) (.seq (.draw [oM 114 0,oO 115 (.nilCheck (oT 114)),oF 116 74 115 1,oL 117 72 116,oM 118 0,oO 119 (.nilCheck (oT 118)),oF 120 74 119 1,oL 121 72 120,oN 122 121 72,oO 123 (.binOp .sub 3 (oT 122) (oC 1) 3),oI 124 72 117 123,oL 125 110 124,oO 6 (.alloc 110),oS (.store 110 (oT 6) (oT 125))] (.op 0 (.op 1 (.op 2 (.op 3 (.op 4 (.op 5 (.op 6 (.op 7 (.op 8 (.op 9 (.op 10 (.op 11 (.op 12 (.op 13 .done))))))))))))))) (.seq (.draw [oM 126 0,oM 127 0,oO 128 (.nilCheck (oT 127)),oF 129 74 128 1,oL 130 72 129,oM 131 0,oO 132 (.nilCheck (oT 131)),oF 133 74 132 1,oL 134 72 133,oN 135 134 72,oO 136 (.binOp .sub 3 (oT 135) (oC 1) 3),oO 137 (.slice 72 (oT 130) none (some (oT 136)) none),oO 138 (.nilCheck (oT 126)),oF 139 74 138 1,oS (.store 72 (oT 139) (oT 137))] (.op 0 (.op 1 (.op 2 (.op 3 (.op 4 (.op 5 (.op 6 (.op 7 (.op 8 (.op 9 (.op 10 (.op 11 (.op 12 (.op 13 (.op 14 .done)))))))))))))))) (.draw [oM 140 0,oO 141 (.nilCheck (oT 140)),oF 142 74 141 0,oL 143 51 142,oF 144 110 6 1,oL 145 3 144,oM 146 0,oO 147 (.nilCheck (oT 146)),oF 148 74 147 0,oL 149 51 148,oN 150 149 51,oF 151 110 6 1,oL 152 3 151,oO 153 (.binOp .sub 3 (oT 150) (oT 152) 3),oI 154 51 143 145,oF 155 103 154 3,oS (.store 3 (oT 155) (oT 153))] (.op 0 (.op 1 (.op 2 (.op 3 (.op 4 (.op 5 (.op 6 (.op 7 (.op 8 (.op 9 (.op 10 (.op 11 (.op 12 (.op 13 (.op 14 (.op 15 (.op 16 .done))))))))))))))))))))) (.seq (.reg [oO 4 (.assign (.const (.bool false)))]) .ret))))))))) (.seq (.reg [oO 4 (.assign (.const (.bool true)))]) .ret)))))
theorem V6a:EN Yva [(ResultVar.tmp 4)] 156 40:=acE Tryz.func40 (ann:=Z7b)
def Xi.w (a0_:Ze) (c0_0_:List Za) (c0_1_:List Zv) (c0_2_:Bool) (Q:Bool→(List Za)→(List Zv)→Bool→Prop):Prop:=
 if a0_.Kind = 1 then
  wcut (α:=(List Za)) (fun k1=>
   if (!c0_2_) = true then
    ((c0_0_.length+([(⟨46,(ByteArray.mk #[]),a0_.At,1⟩:Za)]:List Za).length) * 40≤140737488355328) ∧
    k1 (c0_0_++([(⟨46,(ByteArray.mk #[]),a0_.At,1⟩:Za)]:List Za))
   else
    k1 c0_0_) (fun a1=>
   (I64 ((a1.length:Int) - 1)) ∧
   (0≤(a1.length:Int) - 1) ∧
   ∃ v1:Za,a1[((a1.length:Int) - 1).toNat]? = some v1 ∧
   (v1.Text.size+(Yg ([a0_.Ch]:List Int)).size≤9223372036854775807) ∧
   Q true (a1.set (((a1.length:Int) - 1).toNat) (⟨v1.Kind,v1.Text++(Yg ([a0_.Ch]:List Int)),v1.At,v1.Size⟩:Za)) c0_1_ (decide (a0_.Kind = 1)))
 else
  if a0_.Kind = 2 then
   ((c0_1_.length+([(⟨a0_,(c0_0_.length:Int)⟩:Zv)]:List Zv).length) * 32≤140737488355328) ∧
   ((c0_0_.length+([(⟨a0_.Ch,(ByteArray.mk #[]),a0_.At,1⟩:Za)]:List Za).length) * 40≤140737488355328) ∧
   Q true (c0_0_++([(⟨a0_.Ch,(ByteArray.mk #[]),a0_.At,1⟩:Za)]:List Za)) (c0_1_++([(⟨a0_,(c0_0_.length:Int)⟩:Zv)]:List Zv)) (decide (a0_.Kind = 1))
  else
   if a0_.Kind = 3 then
    if (c0_1_.length:Int) = 0 then
     Q false c0_0_ c0_1_ (decide (a0_.Kind = 1))
    else
     (I64 ((c0_1_.length:Int) - 1)) ∧
     (0≤(c0_1_.length:Int) - 1) ∧
     ∃ v3:Zv,c0_1_[((c0_1_.length:Int) - 1).toNat]? = some v3 ∧
     if v3.Tok.Ch = a0_.Ch then
      (I64 ((c0_1_.length:Int) - 1)) ∧
      (I64 ((c0_1_.length:Int) - 1)) ∧
      (0≤((c0_1_.length:Int) - 1).toNat∧((c0_1_.length:Int) - 1).toNat≤c0_1_.length) ∧
      (I64 ((c0_0_.length:Int) - v3.node)) ∧
      (0≤v3.node) ∧
      ∃ v5:Za,c0_0_[v3.node.toNat]? = some v5 ∧
      Q true (c0_0_.set v3.node.toNat (⟨v5.Kind,v5.Text,v5.At,(c0_0_.length:Int) - v3.node⟩:Za)) (c0_1_.take (((c0_1_.length:Int) - 1).toNat)) (decide (a0_.Kind = 1))
     else
      Q false c0_0_ c0_1_ (decide (a0_.Kind = 1))
   else
    Q false c0_0_ c0_1_ (decide (a0_.Kind = 1))
theorem Xi.ok {a0_:Ze} {c0_0_:List Za} {c0_1_:List Zv} {c0_2_:Bool} {Q:Bool→(List Za)→(List Zv)→Bool→Prop} (hm:Xi.w a0_ c0_0_ c0_1_ c0_2_ Q) {h0 h:Hp} {b0_:Nat} {x0_0_ x0_1_:AV} (H:AM.Own h0 h [⟨x0_0_,false,4,c0_0_.map Za.enc,some (103,0)⟩,⟨x0_1_,false,4,c0_1_.map Zv.enc,some (110,0)⟩,⟨(.optr b0_ 3 0 0),true,3,[[x0_0_,x0_1_,(Zk c0_2_)]],some (74,3)⟩]):Zo Tryz.prog n_flat_grown_take [(.optr b0_ 3 0 0),(.agg (Ze.enc a0_))] h (fun e h'=>∃ (r:Bool) (c0_0':List Za) (c0_1':List Zv) (c0_2':Bool) (x0_0_':AV) (x0_1_':AV),e = .ret ((fun r=>(Zk r)) r)∧AM.Own h0 h' [⟨x0_0_',false,4,c0_0'.map Za.enc,some (103,0)⟩,⟨x0_1_',false,4,c0_1'.map Zv.enc,some (110,0)⟩,⟨(.optr b0_ 3 0 0),true,3,[[x0_0_',x0_1_',(Zk c0_2')]],some (74,3)⟩]∧Q r c0_0' c0_1' c0_2'):=by
 refine V6a ?_
 unfold Xi.w at hm
 try simp -implicitDefEqProofs (disch:=omega) only [push_cast,seval,Yva,H.p 2 rfl]
 refine H.newR (Ze.enc a0_) rfl (fun b1 h1 H=>?_)
 refine sg (ai (H.p 2 rfl) (H.p 3 rfl)) ?_
 refine H.stP 2 [x0_0_,x0_1_,(Zk (decide (a0_.Kind = 1)))] rfl rfl rfl rfl (Nat.le_of_ble_eq_true rfl) rfl (fun h2 H=>?_)
 refine sg (ai (H.p 2 rfl) (H.p 3 rfl)) ?_
 refine fkc (fun c1=>?_) fun c1=>?_
 ·replace hm:=ifp hm c1
  refine sg (ai (eq_true c1) (ai (H.p 2 rfl) (H.p 3 rfl))) ?_
  obtain ⟨k1,hm,hk1⟩:=Yn hm
  obtain ⟨M1,hM1⟩:∃ M:AM.St→Prop,M = (fun s'=>∃ (a1:List Za) (x1:AV) (h3:Hp),Like s'.tm (((List.replicate 156 none).set 0 (some (.optr b0_ 3 0 0))).set 3 (some (.optr b1 3 0 0)))∧s'.h = h3∧AM.Own h0 h3 [⟨x1,false,4,a1.map Za.enc,some (103,0)⟩,⟨x0_1_,false,4,c0_1_.map Zv.enc,some (110,0)⟩,⟨(.optr b0_ 3 0 0),true,3,[[x1,x0_1_,(Zk (decide (a0_.Kind = 1)))]],some (74,3)⟩,⟨(.optr b1 3 0 0),true,3,[(Ze.enc a0_)],some (43,3)⟩]∧k1 a1):=⟨_,rfl⟩
  refine Xe M1 ?_ ?_
  ·refine sg (ai (eq_true c1) (ai (H.p 2 rfl) (H.p 3 rfl))) ?_
   rw [Zw]
   refine ⟨fun c2=>?_,fun c2=>?_⟩
   ·replace hm:=ifp hm c2
    refine sg (ai (eq_true c1) (ai c2 (ai (H.p 2 rfl) (H.p 3 rfl)))) ?_
    refine H.newL (E:=Za.enc) ([(⟨46,(ByteArray.mk #[]),a0_.At,1⟩:Za)]:List Za) rfl rfl (fun b2 h4 H=>?_)
    refine sg (ai (eq_true c1) (ai c2 (ai (H.src (e:=103) 4 rfl) (ai (H.p 2 rfl) (H.p 3 rfl))))) ?_
    obtain ⟨w1,hm⟩:=hm
    refine H.appL (E:=Za.enc) 0 ([(⟨46,(ByteArray.mk #[]),a0_.At,1⟩:Za)]:List Za) rfl rfl rfl (by decide) (by decide) w1 (fun x2 h5 H=>?_)
    refine sg (ai (eq_true c1) (ai c2 (ai (H.p 2 rfl) (H.p 3 rfl)))) ?_
    refine H.stP 2 [x2,x0_1_,(Zk (decide (a0_.Kind = 1)))] rfl (H.ok 0 rfl).1 (H.ok 0 rfl).2 rfl (Nat.le_of_ble_eq_true rfl) rfl (fun h6 H=>?_)
    refine sg (ai (eq_true c1) (ai c2 (ai (H.p 2 rfl) (H.p 3 rfl)))) ?_
    replace H:=H.pm [0,1,2,3]
    subst hM1
    exact ⟨c0_0_++([(⟨46,(ByteArray.mk #[]),a0_.At,1⟩:Za)]:List Za),x2,h6,lkt,rfl,H,hm⟩
   replace hm:=ifn hm (by rw [c2]; exact Bool.false_ne_true)
   refine sg (ai (eq_true c1) (ai c2 (ai (H.p 2 rfl) (H.p 3 rfl)))) ?_
   replace H:=H.pm [0,1,2,3]
   subst hM1
   exact ⟨c0_0_,x0_0_,h2,lkt,rfl,H,hm⟩
  subst hM1
  rintro ⟨tm,h3⟩ ⟨a1,x1,_,hL,rfl,H,hm⟩
  dsimp only at hL H
  obtain ⟨D,rfl⟩:=hL.fill 0
  replace hm:=hk1 _ hm
  obtain ⟨w2,hm⟩:=hm
  refine sg (ai (eq_true c1) (ai (wrap_i64 _ w2) (ai (H.lenE 0 rfl tab_51) (ai (H.p 2 rfl) (H.p 3 rfl))))) ?_
  obtain ⟨z1,v1,i1,hm⟩:=hm
  obtain ⟨b3,o1,rfl,qb,qc,qd,qe⟩:=H.row (k:=((a1.length:Int) - 1).toNat) (r:=Za.enc v1) 0 rfl (gmp i1)
  try rw [List.length_map] at qe
  have q1:=qb
  have q2:=qc
  have q3:=qd
  have q4:=eq_true qe
  rw [List.length_map] at H
  refine sg (ai (eq_true c1) (ai (wrap_i64 _ w2) (ai (eq_true z1) (ai q1 (ai q2 (ai q3 (ai q4 (ai (H.p 2 rfl) (H.p 3 rfl))))))))) ?_
  refine H.newL (E:=Xj) ([a0_.Ch]:List Int) rfl rfl (fun b4 h7 H=>?_)
  obtain ⟨w3,hm⟩:=hm
  have F1:=ai (eq_true c1) (ai (wrap_i64 _ w2) (ai (eq_true z1) (eq_true w3)))
  refine sg (ai F1 (ai q1 (ai q2 (ai q3 (ai q4 (ai (H.text 4 rfl Ja Zmb tab_5) (ai (H.p 2 rfl) (H.p 3 rfl)))))))) ?_
  obtain ⟨o2,qb,qc,qd,qe⟩:=H.rowX (k:=((a1.length:Int) - 1).toNat) (r:=Za.enc v1) 0 rfl (gmp i1)
  try rw [List.length_map] at qe
  have q5:=qb
  have q6:=qc
  have q7:=qd
  have q8:=eq_true qe
  refine sg (ai F1 (ai q1 (ai q2 (ai q3 (ai q4 (ai q5 (ai q6 (ai q7 (ai q8 (ai (H.p 2 rfl) (H.p 3 rfl))))))))))) ?_
  have i3:=Z0a (⟨v1.Kind,v1.Text++(Yg ([a0_.Ch]:List Int)),v1.At,v1.Size⟩:Za) i1
  refine H.stL 0 (⟨v1.Kind,v1.Text++(Yg ([a0_.Ch]:List Int)),v1.At,v1.Size⟩:Za) rfl i1 rfl rfl rfl (Nat.le_of_ble_eq_true rfl) rfl (fun h8 H=>?_)
  refine sg (ai F1 (ai q1 (ai q2 (ai q3 (ai q4 (ai q5 (ai q6 (ai q7 (ai q8 (ai (H.p 2 rfl) (H.p 3 rfl))))))))))) ?_
  replace H:=H.pm [0,1,2]
  exact Ym (.inl rfl) (x:=(Zk true)) rfl (Zf.refl _ _) ⟨true,a1.set (((a1.length:Int) - 1).toNat) (⟨v1.Kind,v1.Text++(Yg ([a0_.Ch]:List Int)),v1.At,v1.Size⟩:Za),c0_1_,decide (a0_.Kind = 1),(.osl b3 4 0 a1.length),x0_1_,rfl,H,hm⟩
 replace hm:=ifn hm c1
 refine sg (ai (eq_false c1) (ai (H.p 2 rfl) (H.p 3 rfl))) ?_
 refine fkc (fun c3=>?_) fun c3=>?_
 ·replace hm:=ifp hm c3
  refine sg (ai (eq_false c1) (ai (eq_true c3) (ai (H.lenE 0 rfl tab_51) (ai (H.p 2 rfl) (H.p 3 rfl))))) ?_
  refine H.newL (E:=Zv.enc) ([(⟨a0_,(c0_0_.length:Int)⟩:Zv)]:List Zv) rfl rfl (fun b6 h9 H=>?_)
  refine sg (ai (eq_false c1) (ai (eq_true c3) (ai (H.src (e:=110) 4 rfl) (ai (H.p 2 rfl) (H.p 3 rfl))))) ?_
  obtain ⟨w4,hm⟩:=hm
  refine H.appL (E:=Zv.enc) 1 ([(⟨a0_,(c0_0_.length:Int)⟩:Zv)]:List Zv) rfl rfl rfl (by decide) (by decide) w4 (fun x3 h10 H=>?_)
  refine sg (ai (eq_false c1) (ai (eq_true c3) (ai (H.p 2 rfl) (H.p 3 rfl)))) ?_
  refine H.stP 2 [x0_0_,x3,(Zk (decide (a0_.Kind = 1)))] rfl (H.ok 1 rfl).1 (H.ok 1 rfl).2 rfl (Nat.le_of_ble_eq_true rfl) rfl (fun h11 H=>?_)
  refine sg (ai (eq_false c1) (ai (eq_true c3) (ai (H.p 2 rfl) (H.p 3 rfl)))) ?_
  refine H.newL (E:=Za.enc) ([(⟨a0_.Ch,(ByteArray.mk #[]),a0_.At,1⟩:Za)]:List Za) rfl rfl (fun b7 h12 H=>?_)
  refine sg (ai (eq_false c1) (ai (eq_true c3) (ai (H.src (e:=103) 5 rfl) (ai (H.p 2 rfl) (H.p 3 rfl))))) ?_
  obtain ⟨w5,hm⟩:=hm
  refine H.appL (E:=Za.enc) 0 ([(⟨a0_.Ch,(ByteArray.mk #[]),a0_.At,1⟩:Za)]:List Za) rfl rfl rfl (by decide) (by decide) w5 (fun x4 h13 H=>?_)
  refine sg (ai (eq_false c1) (ai (eq_true c3) (ai (H.p 2 rfl) (H.p 3 rfl)))) ?_
  refine H.stP 2 [x4,x3,(Zk (decide (a0_.Kind = 1)))] rfl (H.ok 0 rfl).1 (H.ok 0 rfl).2 rfl (Nat.le_of_ble_eq_true rfl) rfl (fun h14 H=>?_)
  refine sg (ai (eq_false c1) (ai (eq_true c3) (ai (H.p 2 rfl) (H.p 3 rfl)))) ?_
  replace H:=H.pm [0,1,2]
  exact Ym (.inl rfl) (x:=(Zk true)) rfl (Zf.refl _ _) ⟨true,c0_0_++([(⟨a0_.Ch,(ByteArray.mk #[]),a0_.At,1⟩:Za)]:List Za),c0_1_++([(⟨a0_,(c0_0_.length:Int)⟩:Zv)]:List Zv),decide (a0_.Kind = 1),x4,x3,rfl,H,hm⟩
 replace hm:=ifn hm c3
 refine sg (ai (eq_false c1) (ai (eq_false c3) (ai (H.p 2 rfl) (H.p 3 rfl)))) ?_
 refine fkc (fun c4=>?_) fun c4=>?_
 ·replace hm:=ifp hm c4
  refine sg (ai (eq_false c1) (ai (eq_false c3) (ai (eq_true c4) (ai (H.lenE 1 rfl tab_72) (ai (H.p 2 rfl) (H.p 3 rfl)))))) ?_
  refine gfk' (fun c5=>?_) fun c5=>?_
  ·replace hm:=ifp hm c5
   have F2:=ai (eq_false c1) (ai (eq_false c3) (ai (eq_true c4) (eq_true c5)))
   refine sg (ai F2 (ai (H.p 2 rfl) (H.p 3 rfl))) ?_
   replace H:=H.pm [0,1,2]
   exact Ym (.inl rfl) (x:=(Zk false)) rfl (Zf.refl _ _) ⟨false,c0_0_,c0_1_,decide (a0_.Kind = 1),x0_0_,x0_1_,rfl,H,hm⟩
  replace hm:=ifn hm c5
  obtain ⟨w6,hm⟩:=hm
  have F3:=ai (eq_false c1) (ai (eq_false c3) (ai (eq_true c4) (ai (eq_false c5) (wrap_i64 _ w6))))
  refine sg (ai F3 (ai (H.lenE 1 rfl tab_72) (ai (H.p 2 rfl) (H.p 3 rfl)))) ?_
  obtain ⟨z2,v3,i4,hm⟩:=hm
  obtain ⟨b8,o3,rfl,qb,qc,qd,qe⟩:=H.row (k:=((c0_1_.length:Int) - 1).toNat) (r:=Zv.enc v3) 1 rfl (gmp i4)
  try rw [List.length_map] at qe
  have q9:=qb
  have q10:=qc
  have q11:=qd
  have q12:=eq_true qe
  rw [List.length_map] at H
  refine sg (ai F3 (ai (eq_true z2) (ai q9 (ai q10 (ai q11 (ai q12 (ai (H.p 2 rfl) (H.p 3 rfl)))))))) ?_
  refine fkc (fun c6=>?_) fun c6=>?_
  ·replace hm:=ifn hm c6
   refine sg (ai F3 (ai (eq_true z2) (ai q9 (ai q10 (ai q11 (ai q12 (ai (eq_false c6) (ai (H.p 2 rfl) (H.p 3 rfl))))))))) ?_
   replace H:=H.pm [0,1,2]
   exact Ym (.inl rfl) (x:=(Zk false)) rfl (Zf.refl _ _) ⟨false,c0_0_,c0_1_,decide (a0_.Kind = 1),x0_0_,(.osl b8 4 0 c0_1_.length),rfl,H,hm⟩
  replace c6:=Decidable.not_not.1 c6
  replace hm:=ifp hm c6
  obtain ⟨w7,hm⟩:=hm
  have F4:=ai F3 (ai (eq_true z2) (ai (eq_true c6) (wrap_i64 _ w7)))
  refine sg (ai F4 (ai q9 (ai q10 (ai q11 (ai q12 (ai (H.lenE 1 rfl tab_72) (ai (H.p 2 rfl) (H.p 3 rfl)))))))) ?_
  refine H.newR [(aint 0),(.val (.int .u8 0)),(aint 0),(aint 0)] rfl (fun b9 h15 H=>?_)
  refine sg (ai F4 (ai q9 (ai q10 (ai q11 (ai q12 (ai (H.p 2 rfl) (ai (H.p 3 rfl) (H.p 4 rfl)))))))) ?_
  refine H.stP 4 (Zv.enc v3) rfl rfl rfl rfl (Nat.le_of_ble_eq_true rfl) rfl (fun h16 H=>?_)
  obtain ⟨w8,w9,hm⟩:=hm
  refine sg (ai F4 (ai q9 (ai q10 (ai q11 (ai q12 (ai (wrap_i64 _ w8) (ai (H.lenE 1 rfl tab_72) (ai (H.p 2 rfl) (ai (H.p 3 rfl) (H.p 4 rfl)))))))))) ?_
  refine H.slc 1 rfl tab_72 tab_110 rfl rfl (by simp only [Vy,push_cast,eq_false c1,eq_false c3,eq_true c4,eq_false c5,wrap_i64 _ w6,eq_true z2,q9,q10,q11,q12,eq_true c6,wrap_i64 _ w7,wrap_i64 _ w8]) w9.1 (by rw [List.length_map]; exact w9.2) (fun y1 vw1=>?_)
  refine sg (ai F4 (ai q9 (ai q10 (ai q11 (ai q12 (ai (wrap_i64 _ w8) (ai (H.p 2 rfl) (ai (H.p 3 rfl) (H.p 4 rfl))))))))) ?_
  replace H:=H.trimV 1 rfl vw1
  rw [← List.map_take] at H
  refine H.stP 2 [x0_0_,y1,(Zk (decide (a0_.Kind = 1)))] rfl (H.ok 1 rfl).1 (H.ok 1 rfl).2 rfl (Nat.le_of_ble_eq_true rfl) rfl (fun h17 H=>?_)
  obtain ⟨w10,hm⟩:=hm
  have F5:=ai F4 (ai (wrap_i64 _ w8) (wrap_i64 _ w10))
  refine sg (ai F5 (ai q9 (ai q10 (ai q11 (ai q12 (ai (H.lenE 0 rfl tab_51) (ai (H.p 2 rfl) (ai (H.p 3 rfl) (H.p 4 rfl))))))))) ?_
  obtain ⟨z3,v5,i6,hm⟩:=hm
  obtain ⟨b10,o4,rfl,qb,qc,qd,qe⟩:=H.row (k:=v3.node.toNat) (r:=Za.enc v5) 0 rfl (gmp i6)
  try rw [List.length_map] at qe
  have q13:=qb
  have q14:=qc
  have q15:=qd
  have q16:=eq_true qe
  rw [List.length_map] at H
  refine sg (ai F5 (ai q9 (ai q10 (ai q11 (ai q12 (ai (eq_true z3) (ai q13 (ai q14 (ai q15 (ai q16 (ai (H.p 2 rfl) (ai (H.p 3 rfl) (H.p 4 rfl))))))))))))) ?_
  have i7:=Z0a (⟨v5.Kind,v5.Text,v5.At,(c0_0_.length:Int) - v3.node⟩:Za) i6
  refine H.stL 0 (⟨v5.Kind,v5.Text,v5.At,(c0_0_.length:Int) - v3.node⟩:Za) rfl i6 rfl rfl rfl (Nat.le_of_ble_eq_true rfl) rfl (fun h18 H=>?_)
  refine sg (ai F5 (ai q9 (ai q10 (ai q11 (ai q12 (ai (eq_true z3) (ai q13 (ai q14 (ai q15 (ai q16 (ai (H.p 2 rfl) (ai (H.p 3 rfl) (H.p 4 rfl))))))))))))) ?_
  replace H:=H.pm [0,1,2]
  exact Ym (.inl rfl) (x:=(Zk true)) rfl (Zf.refl _ _) ⟨true,c0_0_.set v3.node.toNat (⟨v5.Kind,v5.Text,v5.At,(c0_0_.length:Int) - v3.node⟩:Za),c0_1_.take (((c0_1_.length:Int) - 1).toNat),decide (a0_.Kind = 1),(.osl b10 4 0 c0_0_.length),y1,rfl,H,hm⟩
 replace hm:=ifn hm c4
 refine sg (ai (eq_false c1) (ai (eq_false c3) (ai (eq_false c4) (ai (H.p 2 rfl) (H.p 3 rfl))))) ?_
 replace H:=H.pm [0,1,2]
 exact Ym (.inl rfl) (x:=(Zk false)) rfl (Zf.refl _ _) ⟨false,c0_0_,c0_1_,decide (a0_.Kind = 1),x0_0_,x0_1_,rfl,H,hm⟩
abbrev n_flat_Tree_1:Nat:=39
noncomputable def Zcb:AC:=
 (.seq (.reg [oO 2 (.box 43 (oT 0)),oO 3 (.assign (.const (.bool false)))]) (.seq (.reg [oL 4 43 2,oO 5 (oK 40 #[(oT 1),(oT 4)] #[74,43]),oO 6 (.unOp .not 4 (oT 5)),oA 3 6]) .ret))
theorem enter_flat_Tree_1:EN Zcb [(ResultVar.tmp 3)] 7 39:=acE Tryz.func39 (ann:=Yy)
def Vq.w (a0_:Ze) (c0_0_:List Za) (c0_1_:List Zv) (c0_2_:Bool) (Q:Bool→(List Za)→(List Zv)→Bool→Prop):Prop:=
 Xi.w a0_ c0_0_ c0_1_ c0_2_ (fun r1 v1 v2 v3=>
  Q (!r1) v1 v2 v3)
theorem Vq.ok {a0_:Ze} {c0_0_:List Za} {c0_1_:List Zv} {c0_2_:Bool} {Q:Bool→(List Za)→(List Zv)→Bool→Prop} (hm:Vq.w a0_ c0_0_ c0_1_ c0_2_ Q) {h0 h:Hp} {b0_:Nat} {x0_0_ x0_1_:AV} (H:AM.Own h0 h [⟨x0_0_,false,4,c0_0_.map Za.enc,some (103,0)⟩,⟨x0_1_,false,4,c0_1_.map Zv.enc,some (110,0)⟩,⟨(.optr b0_ 3 0 0),true,3,[[x0_0_,x0_1_,(Zk c0_2_)]],some (74,3)⟩]):Zo Tryz.prog n_flat_Tree_1 [(.agg (Ze.enc a0_)),(.optr b0_ 3 0 0)] h (fun e h'=>∃ (r:Bool) (c0_0':List Za) (c0_1':List Zv) (c0_2':Bool) (x0_0_':AV) (x0_1_':AV),e = .ret ((fun r=>(Zk r)) r)∧AM.Own h0 h' [⟨x0_0_',false,4,c0_0'.map Za.enc,some (103,0)⟩,⟨x0_1_',false,4,c0_1'.map Zv.enc,some (110,0)⟩,⟨(.optr b0_ 3 0 0),true,3,[[x0_0_',x0_1_',(Zk c0_2')]],some (74,3)⟩]∧Q r c0_0' c0_1' c0_2'):=by
 refine enter_flat_Tree_1 ?_
 unfold Vq.w at hm
 try simp -implicitDefEqProofs (disch:=omega) only [push_cast,seval,Zcb,H.p 2 rfl]
 refine H.newR (Ze.enc a0_) rfl (fun b1 h1 H=>?_)
 refine sg (ai (H.p 2 rfl) (H.p 3 rfl)) ?_
 obtain ⟨h2,HF1,hB1⟩:=H.frame [0,1,2] (by decide)
 refine Z1 (Xi.ok hm HF1) ?_
 rintro _ h3 ⟨r1,v1,v2,v3,x1,x2,rfl,H',hm⟩
 replace H:=hB1 _ _ rfl H'
 refine sg (ai (H.p 2 rfl) (H.p 3 rfl)) ?_
 replace H:=H.pm [0,1,2]
 exact Ym (.inl rfl) (x:=(Zk (!r1))) rfl (Zf.refl _ _) ⟨!r1,v1,v2,v3,x1,x2,rfl,H,hm⟩
abbrev Jh:Nat:=69
noncomputable def Wj:AC:=
 (.seq (.reg [oO 4 (.assign (oC 0))]) (.seq (.seq (.reg [oM 6 0,oN 7 6 22,oO 8 (.move (oC 0))]) (.block 0 (.loop (.seq (.reg [oO 9 (.binOp .lss 3 (oT 8) (oT 7) 3)]) (.seq (.cond (oT 9) .skip (.exit 0)) (.seq (.block 1 (.seq (.reg [oM 10 8,oA 5 10]) (.seq (.reg [oM 11 1,oM 12 0,oM 13 5,oI 14 22 12 13,oL 15 43 14,oO 16 (.call (.mk (.value (oT 11)) #[(oT 15)] #[43]))]) (.cond (oT 16) (.seq (.reg [oM 17 5,oA 4 17]) .ret) .skip)))) (.reg [oO 18 (.binOp .add 3 (oT 8) (oC 1) 3),oM 8 18]))))))) (.seq (.reg [oO 4 (.assign (oC (-1)))]) .ret)))
theorem Ki:EN Wj [(ResultVar.tmp 4)] 19 69:=acE Tryz.func69 (ann:=Yy)
def Z9.w (a0_:List Ze) (c0_0_:List Za) (c0_1_:List Zv) (c0_2_:Bool) (Q:Int→(List Za)→(List Zv)→Bool→Prop):Prop:=
 X2 (σ:=(List Za)×(List Zv)×Bool×Int) (fun ⟨a1,a2,a3,a4⟩ next1=>
  if a4 < (a0_.length:Int) then
   (0≤a4) ∧
   ∃ v1:Ze,a0_[a4.toNat]? = some v1 ∧
   Vq.w v1 a1 a2 a3 (fun r1 v2 v3 v4=>
    if r1 = true then
     Q a4 v2 v3 v4
    else
     (I64 (a4+1)) ∧
     next1 (v2,v3,v4,a4+1))
  else
   Q (-1) a1 a2 a3) (c0_0_,c0_1_,c0_2_,0)
theorem Z9.ok {a0_:List Ze} {c0_0_:List Za} {c0_1_:List Zv} {c0_2_:Bool} {Q:Int→(List Za)→(List Zv)→Bool→Prop} (hm:Z9.w a0_ c0_0_ c0_1_ c0_2_ Q) {h0 h:Hp} {b0_:Nat} {x0_0_ x0_1_:AV} (H:AM.Own h0 h [⟨x0_0_,false,4,c0_0_.map Za.enc,some (103,0)⟩,⟨x0_1_,false,4,c0_1_.map Zv.enc,some (110,0)⟩,⟨(.optr b0_ 3 0 0),true,3,[[x0_0_,x0_1_,(Zk c0_2_)]],some (74,3)⟩]):Zo Tryz.prog Jh [(.isl 3 (a0_.map Ze.enc)),(.fn (.func 39) [] [(.optr b0_ 3 0 0)])] h (fun e h'=>∃ (r:Int) (c0_0':List Za) (c0_1':List Zv) (c0_2':Bool) (x0_0_':AV) (x0_1_':AV),e = .ret ((fun r=>(aint r)) r)∧AM.Own h0 h' [⟨x0_0_',false,4,c0_0'.map Za.enc,some (103,0)⟩,⟨x0_1_',false,4,c0_1'.map Zv.enc,some (110,0)⟩,⟨(.optr b0_ 3 0 0),true,3,[[x0_0_',x0_1_',(Zk c0_2')]],some (74,3)⟩]∧Q r c0_0' c0_1' c0_2'):=by
 refine Ki ?_
 unfold Z9.w at hm
 try simp -implicitDefEqProofs (disch:=omega) only [push_cast,seval,Wj,H.p 2 rfl]
 obtain ⟨inv1,mu1,hi1,hs1⟩:=hm
 replace H:=H.pm [0,1,2]
 refine Z7 (σ:=((List Za)×(List Zv)×Bool×Int)×AV×AV×Hp) (fun ⟨⟨a1,a2,a3,a4⟩,x1,x2,h1⟩=>⟨((((List.replicate 19 AV.any).set 0 (.isl 3 (a0_.map Ze.enc))).set 1 (.fn (.func 39) [] [(.optr b0_ 3 0 0)])).set 7 (aint (a0_.length:Int))).set 8 (aint a4),h1⟩) (fun ⟨⟨a1,a2,a3,a4⟩,x1,x2,h1⟩=>inv1 (a1,a2,a3,a4)∧AM.Own h0 h1 [⟨x1,false,4,a1.map Za.enc,some (103,0)⟩,⟨x2,false,4,a2.map Zv.enc,some (110,0)⟩,⟨(.optr b0_ 3 0 0),true,3,[[x1,x2,(Zk a3)]],some (74,3)⟩]) (fun ⟨⟨a1,a2,a3,a4⟩,x1,x2,h1⟩=>mu1 (a1,a2,a3,a4)) ⟨(c0_0_,c0_1_,c0_2_,0),x0_0_,x0_1_,h⟩ (rtw) ⟨hi1,H⟩ ?_
 rintro ⟨⟨a1,a2,a3,a4⟩,x1,x2,h1⟩ ⟨hi1,H⟩
 have hm:=hs1 _ hi1
 dsimp only at hm H ⊢
 refine sg (H.p 2 rfl) ?_
 refine fkc (fun c1=>?_) fun c1=>?_
 ·replace hm:=ifp hm c1
  obtain ⟨z1,v1,i1,hm⟩:=hm
  refine sg (ai (eq_true c1) (ai (eq_true z1) (ai i1 (H.p 2 rfl)))) ?_
  obtain ⟨h2,HF1,hB1⟩:=H.frame [0,1,2] (by decide)
  refine Z1 (Vq.ok hm HF1) ?_
  rintro _ h3 ⟨r1,v2,v3,v4,x3,x4,rfl,H',hm⟩
  replace H:=hB1 _ _ rfl H'
  refine sg (ai (eq_true c1) (ai (eq_true z1) (ai i1 (H.p 2 rfl)))) ?_
  rw [Zw]
  refine ⟨fun c2=>?_,fun c2=>?_⟩
  ·replace hm:=ifp hm c2
   refine sg (ai (eq_true c1) (ai (eq_true z1) (ai i1 (ai c2 (H.p 2 rfl))))) ?_
   replace H:=H.pm [0,1,2]
   exact Ym (.inl rfl) (x:=(aint a4)) rfl (Zf.refl _ _) ⟨a4,v2,v3,v4,x3,x4,rfl,H,hm⟩
  replace hm:=ifn hm (by rw [c2]; exact Bool.false_ne_true)
  obtain ⟨w1,hm⟩:=hm
  have F1:=ai (eq_true c1) (ai (eq_true z1) (ai i1 (ai c2 (wrap_i64 _ w1))))
  refine sg (ai F1 (H.p 2 rfl)) ?_
  replace H:=H.pm [0,1,2]
  exact ⟨⟨(v2,v3,v4,a4+1),x3,x4,h3⟩,hm.2,⟨hm.1,H⟩,rtw⟩
 replace hm:=ifn hm c1
 refine sg (ai (eq_false c1) (H.p 2 rfl)) ?_
 replace H:=H.pm [0,1,2]
 exact Ym (.inl rfl) (x:=(aint (-1))) rfl (Zf.refl _ _) ⟨-1,a1,a2,a3,x1,x2,rfl,H,hm⟩
abbrev Kq:Nat:=38
noncomputable def X0:AC:=
 (.seq (.reg [oO 4 (.assign (.const (.bool false)))]) (.seq (.reg [oM 5 0,oM 6 1,oO 7 (oK 69 #[(oT 5),(oT 6)] #[22,54]),oO 8 (.binOp .geq 3 (oT 7) (oC 0) 3),oA 4 8]) .ret))
theorem Vt:EN X0 [(ResultVar.tmp 4)] 9 38:=acE Tryz.func38 (ann:=Yy)
def Zx.w (a0_:List Ze) (c0_0_:List Za) (c0_1_:List Zv) (c0_2_:Bool) (Q:Bool→(List Za)→(List Zv)→Bool→Prop):Prop:=
 Z9.w a0_ c0_0_ c0_1_ c0_2_ (fun r1 v1 v2 v3=>
  Q (decide (0≤r1)) v1 v2 v3)
theorem Zx.ok {a0_:List Ze} {c0_0_:List Za} {c0_1_:List Zv} {c0_2_:Bool} {Q:Bool→(List Za)→(List Zv)→Bool→Prop} (hm:Zx.w a0_ c0_0_ c0_1_ c0_2_ Q) {h0 h:Hp} {b0_:Nat} {x0_0_ x0_1_:AV} (H:AM.Own h0 h [⟨x0_0_,false,4,c0_0_.map Za.enc,some (103,0)⟩,⟨x0_1_,false,4,c0_1_.map Zv.enc,some (110,0)⟩,⟨(.optr b0_ 3 0 0),true,3,[[x0_0_,x0_1_,(Zk c0_2_)]],some (74,3)⟩]):Zo Tryz.prog Kq [(.isl 3 (a0_.map Ze.enc)),(.fn (.func 39) [] [(.optr b0_ 3 0 0)])] h (fun e h'=>∃ (r:Bool) (c0_0':List Za) (c0_1':List Zv) (c0_2':Bool) (x0_0_':AV) (x0_1_':AV),e = .ret ((fun r=>(Zk r)) r)∧AM.Own h0 h' [⟨x0_0_',false,4,c0_0'.map Za.enc,some (103,0)⟩,⟨x0_1_',false,4,c0_1'.map Zv.enc,some (110,0)⟩,⟨(.optr b0_ 3 0 0),true,3,[[x0_0_',x0_1_',(Zk c0_2')]],some (74,3)⟩]∧Q r c0_0' c0_1' c0_2'):=by
 refine Vt ?_
 unfold Zx.w at hm
 try simp -implicitDefEqProofs (disch:=omega) only [push_cast,seval,X0,H.p 2 rfl]
 obtain ⟨h1,HF1,hB1⟩:=H.frame [0,1,2] (by decide)
 refine Z1 (Z9.ok hm HF1) ?_
 rintro _ h2 ⟨r1,v1,v2,v3,x1,x2,rfl,H',hm⟩
 replace H:=hB1 _ _ rfl H'
 refine sg (H.p 2 rfl) ?_
 replace H:=H.pm [0,1,2]
 exact Ym (.inl rfl) (x:=(Zk (decide (0≤r1)))) rfl (Zf.refl _ _) ⟨decide (0≤r1),v1,v2,v3,x1,x2,rfl,H,hm⟩
abbrev n_lex_names:Nat:=145
noncomputable def ac_lex_names:AC:=
 (.seq (.reg [oO 0 (.assign (.const (.slice none 0 0)))]) (.seq (.reg [oO 1 (.buildSlice 180 13 #[(0,(.const (.string (ByteArray.mk #[104,49])))),(1,(.const (.string (ByteArray.mk #[104,50])))),(2,(.const (.string (ByteArray.mk #[104,51])))),(3,(.const (.string (ByteArray.mk #[112])))),(4,(.const (.string (ByteArray.mk #[108])))),(5,(.const (.string (ByteArray.mk #[105])))),(6,(.const (.string (ByteArray.mk #[116])))),(7,(.const (.string (ByteArray.mk #[114])))),(8,(.const (.string (ByteArray.mk #[99])))),(9,(.const (.string (ByteArray.mk #[110])))),(10,(.const (.string (ByteArray.mk #[101])))),(11,(.const (.string (ByteArray.mk #[115])))),(12,(.const (.string (ByteArray.mk #[107]))))]),oA 0 1]) .ret))
theorem enter_lex_names:EN ac_lex_names [(ResultVar.tmp 0)] 2 145:=acE Tryz.func145 (ann:=Yy)
def Y8a.w (Q:(List ByteArray)→Prop):Prop:=
 Q ([(ByteArray.mk #[104,49]),(ByteArray.mk #[104,50]),(ByteArray.mk #[104,51]),(ByteArray.mk #[112]),(ByteArray.mk #[108]),(ByteArray.mk #[105]),(ByteArray.mk #[116]),(ByteArray.mk #[114]),(ByteArray.mk #[99]),(ByteArray.mk #[110]),(ByteArray.mk #[101]),(ByteArray.mk #[115]),(ByteArray.mk #[107])]:List ByteArray)
theorem Y8a.ok {Q:(List ByteArray)→Prop} (hm:Y8a.w Q) (h0:Hp):Zo Tryz.prog n_lex_names [] h0 (Back h0 (fun r=>(.isl 1 (r.map AM.encStr))) Q):=by
 refine enter_lex_names ?_
 unfold Y8a.w at hm
 have H:=AM.Own.nil h0
 have w1:=fun (K:AM.St→Prop) (X:AV→Hp→Prop) (d:Option Nat) (tm:List AV) (h:Hp) (pu:Bool)=>one_closedSlice (P:=Tryz.prog) (K:=K) (X:=X) (d:=d) (tm:=tm) (h:=h) (pu:=pu) (len:=13) (ps:=#[(0,(Operand.const (Value.string (ByteArray.mk #[104,49])))),(1,(Operand.const (Value.string (ByteArray.mk #[104,50])))),(2,(Operand.const (Value.string (ByteArray.mk #[104,51])))),(3,(Operand.const (Value.string (ByteArray.mk #[112])))),(4,(Operand.const (Value.string (ByteArray.mk #[108])))),(5,(Operand.const (Value.string (ByteArray.mk #[105])))),(6,(Operand.const (Value.string (ByteArray.mk #[116])))),(7,(Operand.const (Value.string (ByteArray.mk #[114])))),(8,(Operand.const (Value.string (ByteArray.mk #[99])))),(9,(Operand.const (Value.string (ByteArray.mk #[110])))),(10,(Operand.const (Value.string (ByteArray.mk #[101])))),(11,(Operand.const (Value.string (ByteArray.mk #[115])))),(12,(Operand.const (Value.string (ByteArray.mk #[107]))))]) (rows:=([(ByteArray.mk #[104,49]),(ByteArray.mk #[104,50]),(ByteArray.mk #[104,51]),(ByteArray.mk #[112]),(ByteArray.mk #[108]),(ByteArray.mk #[105]),(ByteArray.mk #[116]),(ByteArray.mk #[114]),(ByteArray.mk #[99]),(ByteArray.mk #[110]),(ByteArray.mk #[101]),(ByteArray.mk #[115]),(ByteArray.mk #[107])]:List ByteArray).map AM.encStr) tab_180 Zmb (by decide) (by decide) rfl
 try simp -implicitDefEqProofs (disch:=omega) only [push_cast,seval,ac_lex_names,↓w1]
 refine H.newL (E:=AM.encStr) ([(ByteArray.mk #[104,49]),(ByteArray.mk #[104,50]),(ByteArray.mk #[104,51]),(ByteArray.mk #[112]),(ByteArray.mk #[108]),(ByteArray.mk #[105]),(ByteArray.mk #[116]),(ByteArray.mk #[114]),(ByteArray.mk #[99]),(ByteArray.mk #[110]),(ByteArray.mk #[101]),(ByteArray.mk #[115]),(ByteArray.mk #[107])]:List ByteArray) rfl rfl (fun b1 h1 H=>?_)
 refine sg0 ?_
 obtain ⟨h2,s1,H⟩:=H.freeze 0 rfl
 exact Zb (.inl rfl) ([(ByteArray.mk #[104,49]),(ByteArray.mk #[104,50]),(ByteArray.mk #[104,51]),(ByteArray.mk #[112]),(ByteArray.mk #[108]),(ByteArray.mk #[105]),(ByteArray.mk #[116]),(ByteArray.mk #[114]),(ByteArray.mk #[99]),(ByteArray.mk #[110]),(ByteArray.mk #[101]),(ByteArray.mk #[115]),(ByteArray.mk #[107])]:List ByteArray) _ rfl s1 H.sub hm
abbrev n_lex_letter:Nat:=148
noncomputable def X0b:AC:=
 (.seq (.reg [oO 2 (.assign (oD 0))]) (.seq (.reg [oM 3 0,oM 4 0,oN 5 4 9,oO 6 (.binOp .sub 3 (oT 5) (oC 1) 3),oO 7 (.index 9 (oT 3) (oT 6)),oA 2 7]) .ret))
theorem enter_lex_letter:EN X0b [(ResultVar.tmp 2)] 8 148:=acE Tryz.func148 (ann:=Yy)
def J4.w (a0_:ByteArray) (Q:Int→Prop):Prop:=
 (I64 ((a0_.size:Int) - 1)) ∧
 (0≤(a0_.size:Int) - 1) ∧
 ∃ v1:UInt8,a0_[((a0_.size:Int) - 1).toNat]? = some v1 ∧
 Q (v1.toNat:Int)
theorem J4.ok {a0_:ByteArray} {Q:Int→Prop} (hm:J4.w a0_ Q) (h0:Hp):Zo Tryz.prog n_lex_letter [(astr a0_)] h0 (Back h0 (fun r=>(.val (.int .u8 r))) Q):=by
 refine enter_lex_letter ?_
 unfold J4.w at hm
 have H:=AM.Own.nil h0
 obtain ⟨w1,z1,v1,i1,hm⟩:=hm
 try simp -implicitDefEqProofs (disch:=omega) only [push_cast,seval,X0b,wrap_i64 _ w1,eq_true z1,i1]
 exact Zb (.inl rfl) (v1.toNat:Int) _ rfl (Zf.refl _ _) H.sub hm
abbrev n_lex_Name_1:Nat:=147
def ann_lex_Name_1:Nat→Ann
 | 1=>{ pure:=[1],plan:=(.op 0 (.op 1 (.op 2 (.op 3 (.op 4 .done))))),ghost:=false,post:=false }
 | _=>{}
noncomputable def X1b:AC:=
 (.seq (.reg [oO 3 (.assign (.const (.bool false)))]) (.seq (.draw [oM 4 0,⟨some 5,(oK 148 #[(oT 4)] #[9]),none,true⟩,oL 6 5 1,oO 7 (.binOp .eql 5 (oT 5) (oT 6) 5),oA 3 7] (.op 0 (.op 1 (.op 2 (.op 3 (.op 4 .done)))))) .ret))
theorem enter_lex_Name_1:EN X1b [(ResultVar.tmp 3)] 8 147:=acE Tryz.func147 (ann:=ann_lex_Name_1)
def Kg.w (a0_:ByteArray) (c0_:Int) (Q:Bool→Int→Prop):Prop:=
 ∃ r1:Int,J4.w a0_ (fun r'=>r' = r1) ∧
 Q (decide (r1 = c0_)) c0_
theorem Kg.ok {a0_:ByteArray} {c0_:Int} {Q:Bool→Int→Prop} (hm:Kg.w a0_ c0_ Q) {h0 h:Hp} {b0_:Nat} (H:AM.Own h0 h [⟨(.optr b0_ 1 0 0),true,1,[[(.val (.int .u8 c0_))]],some (5,1)⟩]):Zo Tryz.prog n_lex_Name_1 [(astr a0_),(.optr b0_ 1 0 0)] h (fun e h'=>∃ (r:Bool) (c0':Int),e = .ret ((fun r=>(Zk r)) r)∧AM.Own h0 h' [⟨(.optr b0_ 1 0 0),true,1,[[(.val (.int .u8 c0'))]],some (5,1)⟩]∧Q r c0'):=by
 refine enter_lex_Name_1 ?_
 unfold Kg.w at hm
 try simp -implicitDefEqProofs (disch:=omega) only [push_cast,seval,X1b,H.p 0 rfl]
 obtain ⟨r1,g1,hm⟩:=hm
 refine K4a _ (Jc (fun h=>J4.ok g1 h)) ?_
 refine sg (H.p 0 rfl) ?_
 replace H:=H.pm [0]
 exact Ym (.inl rfl) (x:=(Zk (decide (r1 = c0_)))) rfl (Zf.refl _ _) ⟨decide (r1 = c0_),c0_,rfl,H,hm⟩
end Go.Proofs.YtpkhmfedaaoalaaGreatDoor
