/- ItemsGlues: a part of its proof (packed by a program). -/
import Derived.Test.YtpkhmfedaaoalaaGreatDoorPln
set_option linter.all false
namespace Go.Proofs.YtpkhmfedaaoalaaGreatDoor
open Go Go.Proofs.YtpkhmfedaaoalaaGreatDoor.AM
set_option maxRecDepth 100000
set_option maxHeartbeats 4000000
abbrev Yub:Nat:=6
noncomputable def Yha:AC:=
 (.seq (.reg [oO 3 (.box 26 (oT 1)),oO 4 (.assign (.const (.bool false)))]) (.seq (.seq (.reg [oM 6 0,oN 7 6 22,oO 8 (.binOp .gtr 3 (oT 7) (oC 250) 3),oM 9 8,oG 10 9 false (.fieldAddr 26 (oT 3) 3),oG 11 9 false (.load 24 (oT 10)),oG 12 9 false (.call (.mk (.builtin .len) #[(oT 11)] #[24])),oG 13 9 false (.binOp .gtr 3 (oT 12) (oC 30) 3),oO 14 (.pick (oT 9) (.const (.bool true)) (oT 13))]) (.cond (oT 14) (.seq (.reg [oO 4 (.assign (.const (.bool true)))]) .ret) .skip)) (.seq (.seq (.reg [oO 5 (.assign (oC 0))]) (.block 0 (.loop (.seq (.seq (.reg [oM 15 5,oF 16 26 3 3,oL 17 24 16,oN 18 17 24,oO 19 (.binOp .lss 3 (oT 15) (oT 18) 3)]) (.cond (oT 19) .skip (.exit 0))) (.seq (.block 1 (.seq (.reg [oF 22 26 3 3,oL 23 24 22,oM 24 5,oI 25 24 23 24,oF 26 47 25 0,oL 27 9 26,oN 28 27 9,oO 29 (.binOp .gtr 3 (oT 28) (oC 40) 3),oM 30 29,oG 31 30 false (.fieldAddr 26 (oT 3) 3),oG 32 30 false (.load 24 (oT 31)),oG 33 30 false (.move (oT 5)),oG 34 30 false (.indexAddr 24 (oT 32) (oT 33)),oG 35 30 false (.fieldAddr 47 (oT 34) 1),oG 36 30 false (.load 9 (oT 35)),oG 37 30 false (.call (.mk (.builtin .len) #[(oT 36)] #[9])),oG 38 30 false (.binOp .gtr 3 (oT 37) (oC 40) 3),oO 39 (.pick (oT 30) (.const (.bool true)) (oT 38))]) (.cond (oT 39) (.seq (.reg [oO 4 (.assign (.const (.bool true)))]) .ret) .skip))) (.reg [oM 20 5,oO 21 (.binOp .add 3 (oT 20) (oC 1) 3),oA 5 21])))))) (.seq (.reg [oO 4 (.assign (.const (.bool false)))]) .ret))))
theorem W8a:EN Yha [(ResultVar.tmp 4)] 40 6:=acE Tryz.func6 (ann:=Yy)
def X3.w (a0_:List Ze) (a1_:Zg) (Q:Bool→Prop):Prop:=
 (a1_.Widths.length = 128) ∧
 if 250 < (a0_.length:Int) then
  Q true
 else
  if 30 < (a1_.Pats.length:Int) then
   Q true
  else
   X2 (σ:=Int) (fun a1 next1=>
    if a1 < (a1_.Pats.length:Int) then
     (0≤a1) ∧
     ∃ v1:Zj,a1_.Pats[a1.toNat]? = some v1 ∧
     if 40 < (v1.Letters.size:Int) then
      Q true
     else
      if 40 < (v1.Figures.size:Int) then
       Q true
      else
       (I64 (a1+1)) ∧
       next1 (a1+1)
    else
     Q false) 0
theorem X3.ok {a0_:List Ze} {a1_:Zg} {Q:Bool→Prop} (hm:X3.w a0_ a1_ Q) (h0:Hp):Zo Tryz.prog Yub [(.isl 3 (a0_.map Ze.enc)),(.agg (Zg.enc a1_))] h0 (Back h0 (fun r=>(Zk r)) Q):=by
 refine W8a ?_
 unfold X3.w at hm
 have H:=AM.Own.nil h0
 try simp -implicitDefEqProofs (disch:=omega) only [push_cast,seval,Yha]
 obtain ⟨z1,hm⟩:=hm
 have fa1g0:∀ r:List AV,(List.map (fun v=>AV.val (Value.int IntKind.i64 v)) a1_.Widths++r)[128]? = r[0]?:=fun r=>Zz (k:=0) z1 r
 have fa1t0:∀ r:List AV,(List.map (fun v=>AV.val (Value.int IntKind.i64 v)) a1_.Widths++r).take 129 = List.map (fun v=>AV.val (Value.int IntKind.i64 v)) a1_.Widths++r.take 1:=fun r=>Zr (k:=1) z1 r
 have fa1g1:∀ r:List AV,(List.map (fun v=>AV.val (Value.int IntKind.i64 v)) a1_.Widths++r)[129]? = r[1]?:=fun r=>Zz (k:=1) z1 r
 have fa1t1:∀ r:List AV,(List.map (fun v=>AV.val (Value.int IntKind.i64 v)) a1_.Widths++r).take 130 = List.map (fun v=>AV.val (Value.int IntKind.i64 v)) a1_.Widths++r.take 2:=fun r=>Zr (k:=2) z1 r
 have fa1g2:∀ r:List AV,(List.map (fun v=>AV.val (Value.int IntKind.i64 v)) a1_.Widths++r)[130]? = r[2]?:=fun r=>Zz (k:=2) z1 r
 have fa1t2:∀ r:List AV,(List.map (fun v=>AV.val (Value.int IntKind.i64 v)) a1_.Widths++r).take 131 = List.map (fun v=>AV.val (Value.int IntKind.i64 v)) a1_.Widths++r.take 3:=fun r=>Zr (k:=3) z1 r
 refine ⟨by first | rfl | (rw [Xu z1]; rfl) | (simp [push_cast]; omega),?_⟩
 refine H.newR (List.map (fun v=>AV.val (Value.int IntKind.i64 v)) a1_.Widths++[(aint a1_.Stretch),(aint a1_.Shrink),(.isl 2 (a1_.Pats.map Zj.enc))]) (by first | rfl | (simp only [List.append_assoc,List.cons_append,List.nil_append]; try rfl)) (fun b1 h1 H=>?_)
 have u1:=Xu (f:=(fun v=>AV.val (Value.int IntKind.i64 v))) z1
 have u2:=Vb (f:=(fun v=>AV.val (Value.int IntKind.i64 v))) z1
 refine sg (ai u1 (ai u2 (ai fa1g0 (ai fa1t0 (ai fa1g1 (ai fa1t1 (ai fa1g2 (ai fa1t2 (H.p 0 rfl))))))))) ?_
 refine gfk' (fun c1=>?_) fun c1=>?_
 ·replace hm:=ifp hm c1
  have F1:=ai fa1g0 (ai fa1t0 (ai fa1g1 (ai fa1t1 (ai fa1g2 (ai fa1t2 (eq_true c1))))))
  refine sg (ai F1 (ai u1 (ai u2 (H.p 0 rfl)))) ?_
  exact Zb (.inl rfl) true _ rfl (Zf.refl _ _) H.sub hm
 replace hm:=ifn hm c1
 have F2:=ai fa1g0 (ai fa1t0 (ai fa1g1 (ai fa1t1 (ai fa1g2 (ai fa1t2 (eq_false c1))))))
 refine sg (ai F2 (ai u1 (ai u2 (H.p 0 rfl)))) ?_
 refine fkc (fun c2=>?_) fun c2=>?_
 ·replace hm:=ifp hm c2
  refine sg (ai F2 (ai u1 (ai u2 (ai (eq_true c2) (H.p 0 rfl))))) ?_
  exact Zb (.inl rfl) true _ rfl (Zf.refl _ _) H.sub hm
 replace hm:=ifn hm c2
 refine sg (ai F2 (ai u1 (ai u2 (ai (eq_false c2) (H.p 0 rfl))))) ?_
 obtain ⟨inv1,mu1,hi1,hs1⟩:=hm
 replace H:=H.pm [0]
 refine Z7 (σ:=Int×Hp) (fun ⟨a1,h2⟩=>⟨((List.replicate 40 AV.any).set 3 (.optr b1 131 0 0)).set 5 (aint a1),h2⟩) (fun ⟨a1,h2⟩=>inv1 a1∧AM.Own h0 h2 [⟨(.optr b1 131 0 0),true,131,[(List.map (fun v=>AV.val (Value.int IntKind.i64 v)) a1_.Widths++[(aint a1_.Stretch),(aint a1_.Shrink),(.isl 2 (a1_.Pats.map Zj.enc))])],some (26,131)⟩]) (fun ⟨a1,h2⟩=>mu1 a1) ⟨0,h1⟩ (rtw) ⟨hi1,H⟩ ?_
 rintro ⟨a1,h2⟩ ⟨hi1,H⟩
 have hm:=hs1 _ hi1
 dsimp only at hm H ⊢
 have F3:=ai fa1g0 (ai fa1t0 (ai fa1g1 (ai fa1t1 (ai fa1g2 (ai fa1t2 (ai (eq_false c1) (eq_false c2)))))))
 refine sg (ai F3 (ai u1 (ai u2 (H.p 0 rfl)))) ?_
 refine fkc (fun c3=>?_) fun c3=>?_
 ·replace hm:=ifp hm c3
  obtain ⟨z2,v1,i1,hm⟩:=hm
  refine sg (ai F3 (ai u1 (ai u2 (ai (eq_true c3) (ai (eq_true z2) (ai i1 (H.p 0 rfl))))))) ?_
  refine gfk' (fun c4=>?_) fun c4=>?_
  ·replace hm:=ifp hm c4
   have F4:=ai F3 (ai (eq_true c3) (ai (eq_true z2) (ai i1 (eq_true c4))))
   refine sg (ai F4 (ai u1 (ai u2 (H.p 0 rfl)))) ?_
   exact Zb (.inl rfl) true _ rfl (Zf.refl _ _) H.sub hm
  replace hm:=ifn hm c4
  have F5:=ai F3 (ai (eq_true c3) (ai (eq_true z2) (ai i1 (eq_false c4))))
  refine sg (ai F5 (ai u1 (ai u2 (H.p 0 rfl)))) ?_
  refine fkc (fun c5=>?_) fun c5=>?_
  ·replace hm:=ifp hm c5
   refine sg (ai F5 (ai u1 (ai u2 (ai (eq_true c5) (H.p 0 rfl))))) ?_
   exact Zb (.inl rfl) true _ rfl (Zf.refl _ _) H.sub hm
  replace hm:=ifn hm c5
  obtain ⟨w1,hm⟩:=hm
  refine sg (ai F5 (ai u1 (ai u2 (ai (eq_false c5) (ai (wrap_i64 _ w1) (H.p 0 rfl)))))) ?_
  replace H:=H.pm [0]
  exact ⟨⟨a1+1,h2⟩,hm.2,⟨hm.1,H⟩,rtw⟩
 replace hm:=ifn hm c3
 refine sg (ai F3 (ai u1 (ai u2 (ai (eq_false c3) (H.p 0 rfl))))) ?_
 exact Zb (.inl rfl) false _ rfl (Zf.refl _ _) H.sub hm
end Go.Proofs.YtpkhmfedaaoalaaGreatDoor
