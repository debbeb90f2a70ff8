/- ItemsGlues: a part of its proof (packed by a program). -/
import Derived.Test.YtpkhmfedaaoalaaGreatDoorSqz
import Derived.Test.YtpkhmfedaaoalaaGreatDoorHkf
import Derived.Test.YtpkhmfedaaoalaaGreatDoorWA10
import Derived.Test.YtpkhmfedaaoalaaGreatDoorWA11
import Derived.Test.YtpkhmfedaaoalaaGreatDoorWA12
import Derived.Test.YtpkhmfedaaoalaaGreatDoorWA13
import Derived.Test.YtpkhmfedaaoalaaGreatDoorAwk
import Derived.Test.YtpkhmfedaaoalaaGreatDoorWA3
set_option linter.all false
namespace Go.Proofs.YtpkhmfedaaoalaaGreatDoor
open Go Go.Proofs.YtpkhmfedaaoalaaGreatDoor.AM
set_option maxRecDepth 100000
set_option maxHeartbeats 4000000
abbrev n_items_Of:Nat:=10
noncomputable def ac_items_Of:AC:=
 (.seq (.reg [oO 4 (.box 26 (oT 1)),oO 6 (.assign (.const (.slice none 0 0))),oO 7 (.assign (oC 0))]) (.seq (.seq (.reg [oM 15 0,oO 16 (oK 20 #[(oT 15)] #[22]),oM 14 16,oO 17 (.extract (oT 14) 0),oO 18 (.extract (oT 14) 1),oA 8 17,oA 9 18]) (.seq (.reg [oM 19 9,oO 20 (.binOp .neq 30 (oT 19) (oC 0) 30)]) (.cond (oT 20) (.seq (.reg [oM 21 9,oO 6 (.assign (.const (.slice none 0 0))),oA 7 21]) .ret) .skip))) (.seq (.seq (.reg [oL 22 26 4,oO 23 (oK 24 #[(oT 22)] #[26]),oA 10 23]) (.seq (.reg [oM 24 10,oO 25 (.binOp .neq 30 (oT 24) (oC 0) 30)]) (.cond (oT 25) (.seq (.reg [oM 26 10,oO 6 (.assign (.const (.slice none 0 0))),oA 7 26]) .ret) .skip))) (.seq (.seq (.reg [oM 27 2,oO 28 (.binOp .lss 3 (oT 27) (oC 0) 3),oM 29 28,oG 30 29 false (.move (oT 2)),oG 31 29 false (.move (oT 0)),oG 32 29 false (.call (.mk (.builtin .len) #[(oT 31)] #[22])),oG 33 29 false (.binOp .geq 3 (oT 30) (oT 32) 3),oO 34 (.pick (oT 29) (.const (.bool true)) (oT 33)),oM 35 34,oG 36 35 false (.move (oT 0)),oG 37 35 false (.move (oT 2)),oG 38 35 false (.indexAddr 22 (oT 36) (oT 37)),oG 39 35 false (.load 43 (oT 38)),oG 40 35 false (oK 21 #[(oT 39)] #[43]),oG 41 35 false (.unOp .not 4 (oT 40)),oO 42 (.pick (oT 35) (.const (.bool true)) (oT 41))]) (.cond (oT 42) (.seq (.reg [oO 6 (.assign (.const (.slice none 0 0))),oO 7 (.assign (oC 1))]) .ret) .skip)) (.seq (.reg [oL 43 26 4,oO 44 (.build 59 #[(0,(oT 43))]),oO 45 (.box 59 (oT 44)),oO 11 (.alloc 56),oS (.store 56 (oT 11) (oT 45))]) (.seq (.seq (.reg [oM 46 0,oM 47 2,oO 48 (oK 25 #[(oT 46),(oT 47)] #[22,3])]) (.block 0 (.range (oT 48) [49,50] (.seq (.reg [oA 12 49]) (.reg [oO 13 (.alloc 43),oS (.store 43 (oT 13) (oT 50))])) (.block 1 (.reg [oL 51 56 11,oM 52 12,oL 53 43 13,oO 54 (oK 26 #[(oT 51),(oT 52),(oT 53)] #[56,3,43])]))))) (.seq (.reg [oL 55 56 11,oO 56 (oK 27 #[(oT 55)] #[56])]) (.seq (.reg [oL 57 56 11,oO 58 (.nilCheck (oT 57)),oF 59 59 58 1,oL 60 33 59,oA 6 60,oO 7 (.assign (oC 0))]) .ret))))))))
theorem enter_items_Of:EN ac_items_Of [(ResultVar.tmp 6),(ResultVar.tmp 7)] 61 10:=acE Tryz.func10 (ann:=Yy)
def Jn.w (a0_:List Ze) (a1_:Zg) (a2_:Int) (Q:((List Zh)×Int)→Prop):Prop:=
 (a1_.Widths.length = 128) ∧
 Jo.w a0_ (fun r1=>
  if r1.2 = 0 then
   V5.w a1_ (fun r2=>
    if r2 = 0 then
     if a2_ < 0 then
      Q (([]:List Zh),1)
     else
      if (a0_.length:Int)≤a2_ then
       Q (([]:List Zh),1)
      else
       (0≤a2_) ∧
       ∃ v1:Ze,a0_[a2_.toNat]? = some v1 ∧
       Wv.w v1 (fun r3=>
        if (!r3) = true then
         Q (([]:List Zh),1)
        else
         Xaa.w a0_ a2_ (fun r4=>
          W5.w (σ:=(Zg×(List Zh)×(List Int)×Int)×Nat) (fun ⟨v2,v3⟩ ⟨⟨a1,a2,a3,a4⟩,n1⟩ k1=>n1 = 0 ∧
           Xa.w v2 v3 a1 a2 a3 a4 (fun r5 v4 v5 v6 v7=>
            k1 true ((v4,v5,v6,v7),0))) r4.1 r4.2 ((a1_,([]:List Zh),([]:List Int),0),0) (fun ⟨⟨a1,a2,a3,a4⟩,n2⟩=>
           Yq.w a1 a2 a3 a4 (fun r6 v8 v9 v10 v11=>
            (v8.Widths.length = 128) ∧
            Q (v9,0)))))
    else
     Q (([]:List Zh),r2))
  else
   Q (([]:List Zh),r1.2))
theorem Jn.ok {a0_:List Ze} {a1_:Zg} {a2_:Int} {Q:((List Zh)×Int)→Prop} (hm:Jn.w a0_ a1_ a2_ Q) (h0:Hp):Zo Tryz.prog n_items_Of [(.isl 3 (a0_.map Ze.enc)),(.agg (Zg.enc a1_)),(aint a2_)] h0 (Back h0 (fun r=>.tup [(.isl 5 (r.1.map Zh.enc)),(aint r.2)]) Q):=by
 refine enter_items_Of ?_
 unfold Jn.w at hm
 have H:=AM.Own.nil h0
 try simp -implicitDefEqProofs (disch:=omega) only [push_cast,seval,ac_items_Of]
 obtain ⟨z1,hm⟩:=hm
 have fa1g0:∀ r:List AV,(List.map (fun v=>AV.val (Value.int IntKind.i64 v)) a1_.Widths++r)[128]? = r[0]?:=fun r=>Zz (k:=0) z1 r
 have fa1t0:∀ r:List AV,(List.map (fun v=>AV.val (Value.int IntKind.i64 v)) a1_.Widths++r).take 129 = List.map (fun v=>AV.val (Value.int IntKind.i64 v)) a1_.Widths++r.take 1:=fun r=>Zr (k:=1) z1 r
 have fa1g1:∀ r:List AV,(List.map (fun v=>AV.val (Value.int IntKind.i64 v)) a1_.Widths++r)[129]? = r[1]?:=fun r=>Zz (k:=1) z1 r
 have fa1t1:∀ r:List AV,(List.map (fun v=>AV.val (Value.int IntKind.i64 v)) a1_.Widths++r).take 130 = List.map (fun v=>AV.val (Value.int IntKind.i64 v)) a1_.Widths++r.take 2:=fun r=>Zr (k:=2) z1 r
 have fa1g2:∀ r:List AV,(List.map (fun v=>AV.val (Value.int IntKind.i64 v)) a1_.Widths++r)[130]? = r[2]?:=fun r=>Zz (k:=2) z1 r
 have fa1t2:∀ r:List AV,(List.map (fun v=>AV.val (Value.int IntKind.i64 v)) a1_.Widths++r).take 131 = List.map (fun v=>AV.val (Value.int IntKind.i64 v)) a1_.Widths++r.take 3:=fun r=>Zr (k:=3) z1 r
 refine ⟨by first | rfl | (rw [Xu z1]; rfl) | (simp [push_cast]; omega),?_⟩
 refine H.newR (List.map (fun v=>AV.val (Value.int IntKind.i64 v)) a1_.Widths++[(aint a1_.Stretch),(aint a1_.Shrink),(.isl 2 (a1_.Pats.map Zj.enc))]) (by first | rfl | (simp only [List.append_assoc,List.cons_append,List.nil_append]; try rfl)) (fun b1 h1 H=>?_)
 have u1:=Xu (f:=(fun v=>AV.val (Value.int IntKind.i64 v))) z1
 have u2:=Vb (f:=(fun v=>AV.val (Value.int IntKind.i64 v))) z1
 refine sg (ai u1 (ai u2 (ai fa1g0 (ai fa1t0 (ai fa1g1 (ai fa1t1 (ai fa1g2 (ai fa1t2 (H.p 0 rfl))))))))) ?_
 refine Zn (fun h=>Jo.ok hm h) (fun r1 hm=>?_)
 refine sg (ai u1 (ai u2 (ai fa1g0 (ai fa1t0 (ai fa1g1 (ai fa1t1 (ai fa1g2 (ai fa1t2 (H.p 0 rfl))))))))) ?_
 refine fkc (fun c1=>?_) fun c1=>?_
 ·replace hm:=ifn hm c1
  have F1:=ai fa1g0 (ai fa1t0 (ai fa1g1 (ai fa1t1 (ai fa1g2 (ai fa1t2 (eq_false c1))))))
  refine sg (ai F1 (ai u1 (ai u2 (H.p 0 rfl)))) ?_
  exact Zb (.inl rfl) (([]:List Zh),r1.2) _ rfl (Zf.tup (X8.at (Zf.nil _ 5) [] [_])) H.sub hm
 replace c1:=Decidable.not_not.1 c1
 replace hm:=ifp hm c1
 have F2:=ai fa1g0 (ai fa1t0 (ai fa1g1 (ai fa1t1 (ai fa1g2 (ai fa1t2 (eq_true c1))))))
 refine sg (ai F2 (ai u1 (ai u2 (H.p 0 rfl)))) ?_
 refine Zn (fun h=>V5.ok hm h) (fun r2 hm=>?_)
 refine sg (ai F2 (ai u1 (ai u2 (H.p 0 rfl)))) ?_
 refine fkc (fun c2=>?_) fun c2=>?_
 ·replace hm:=ifn hm c2
  refine sg (ai F2 (ai u1 (ai u2 (ai (eq_false c2) (H.p 0 rfl))))) ?_
  exact Zb (.inl rfl) (([]:List Zh),r2) _ rfl (Zf.tup (X8.at (Zf.nil _ 5) [] [_])) H.sub hm
 replace c2:=Decidable.not_not.1 c2
 replace hm:=ifp hm c2
 refine sg (ai F2 (ai u1 (ai u2 (ai (eq_true c2) (H.p 0 rfl))))) ?_
 refine gfk' (fun c3=>?_) fun c3=>?_
 ·replace hm:=ifp hm c3
  refine sg (ai F2 (ai u1 (ai u2 (ai (eq_true c2) (ai (eq_true c3) (H.p 0 rfl)))))) ?_
  exact Zb (.inl rfl) (([]:List Zh),1) _ rfl (Zf.tup (X8.at (Zf.nil _ 5) [] [_])) H.sub hm
 replace hm:=ifn hm c3
 refine sg (ai F2 (ai u1 (ai u2 (ai (eq_true c2) (ai (eq_false c3) (H.p 0 rfl)))))) ?_
 refine gfk' (fun c4=>?_) fun c4=>?_
 ·replace hm:=ifp hm c4
  have F3:=ai F2 (ai (eq_true c2) (ai (eq_false c3) (eq_true c4)))
  refine sg (ai F3 (ai u1 (ai u2 (H.p 0 rfl)))) ?_
  exact Zb (.inl rfl) (([]:List Zh),1) _ rfl (Zf.tup (X8.at (Zf.nil _ 5) [] [_])) H.sub hm
 replace hm:=ifn hm c4
 obtain ⟨z2,v1,i1,hm⟩:=hm
 have F4:=ai F2 (ai (eq_true c2) (ai (eq_false c3) (ai (eq_false c4) (ai (eq_true z2) i1))))
 refine sg (ai F4 (ai u1 (ai u2 (H.p 0 rfl)))) ?_
 refine Zn (fun h=>Wv.ok hm h) (fun r3 hm=>?_)
 refine sg (ai F4 (ai u1 (ai u2 (H.p 0 rfl)))) ?_
 rw [Zw]
 refine ⟨fun c5=>?_,fun c5=>?_⟩
 ·replace hm:=ifp hm c5
  refine sg (ai F4 (ai u1 (ai u2 (ai c5 (H.p 0 rfl))))) ?_
  exact Zb (.inl rfl) (([]:List Zh),1) _ rfl (Zf.tup (X8.at (Zf.nil _ 5) [] [_])) H.sub hm
 replace hm:=ifn hm (by rw [c5]; exact Bool.false_ne_true)
 refine sg (ai F4 (ai u1 (ai u2 (ai c5 (H.p 0 rfl))))) ?_
 have fa2g0:∀ r:List AV,(List.map (fun v=>AV.val (Value.int IntKind.i64 v)) a1_.Widths++r)[128]? = r[0]?:=fun r=>Zz (k:=0) z1 r
 have fa2t0:∀ r:List AV,(List.map (fun v=>AV.val (Value.int IntKind.i64 v)) a1_.Widths++r).take 129 = List.map (fun v=>AV.val (Value.int IntKind.i64 v)) a1_.Widths++r.take 1:=fun r=>Zr (k:=1) z1 r
 have fa2g1:∀ r:List AV,(List.map (fun v=>AV.val (Value.int IntKind.i64 v)) a1_.Widths++r)[129]? = r[1]?:=fun r=>Zz (k:=1) z1 r
 have fa2t1:∀ r:List AV,(List.map (fun v=>AV.val (Value.int IntKind.i64 v)) a1_.Widths++r).take 130 = List.map (fun v=>AV.val (Value.int IntKind.i64 v)) a1_.Widths++r.take 2:=fun r=>Zr (k:=2) z1 r
 have fa2g2:∀ r:List AV,(List.map (fun v=>AV.val (Value.int IntKind.i64 v)) a1_.Widths++r)[130]? = r[2]?:=fun r=>Zz (k:=2) z1 r
 have fa2t2:∀ r:List AV,(List.map (fun v=>AV.val (Value.int IntKind.i64 v)) a1_.Widths++r).take 131 = List.map (fun v=>AV.val (Value.int IntKind.i64 v)) a1_.Widths++r.take 3:=fun r=>Zr (k:=3) z1 r
 have fa2g3:∀ r:List AV,(List.map (fun v=>AV.val (Value.int IntKind.i64 v)) a1_.Widths++r)[131]? = r[3]?:=fun r=>Zz (k:=3) z1 r
 have fa2t3:∀ r:List AV,(List.map (fun v=>AV.val (Value.int IntKind.i64 v)) a1_.Widths++r).take 132 = List.map (fun v=>AV.val (Value.int IntKind.i64 v)) a1_.Widths++r.take 4:=fun r=>Zr (k:=4) z1 r
 have fa2g4:∀ r:List AV,(List.map (fun v=>AV.val (Value.int IntKind.i64 v)) a1_.Widths++r)[132]? = r[4]?:=fun r=>Zz (k:=4) z1 r
 have fa2t4:∀ r:List AV,(List.map (fun v=>AV.val (Value.int IntKind.i64 v)) a1_.Widths++r).take 133 = List.map (fun v=>AV.val (Value.int IntKind.i64 v)) a1_.Widths++r.take 5:=fun r=>Zr (k:=5) z1 r
 have fa2g5:∀ r:List AV,(List.map (fun v=>AV.val (Value.int IntKind.i64 v)) a1_.Widths++r)[133]? = r[5]?:=fun r=>Zz (k:=5) z1 r
 have fa2t5:∀ r:List AV,(List.map (fun v=>AV.val (Value.int IntKind.i64 v)) a1_.Widths++r).take 134 = List.map (fun v=>AV.val (Value.int IntKind.i64 v)) a1_.Widths++r.take 6:=fun r=>Zr (k:=6) z1 r
 refine ⟨by first | rfl | (rw [Xu z1]; rfl) | (simp [push_cast]; omega),?_⟩
 refine H.newR (List.map (fun v=>AV.val (Value.int IntKind.i64 v)) a1_.Widths++[(aint a1_.Stretch),(aint a1_.Shrink),(.isl 2 (a1_.Pats.map Zj.enc)),anil,anil,(aint 0)]) (by first | rfl | (simp only [List.append_assoc,List.cons_append,List.nil_append]; try rfl)) (fun b2 h2 H=>?_)
 have F5:=ai F4 (ai c5 (ai fa2g0 (ai fa2t0 (ai fa2g1 (ai fa2t1 (ai fa2g2 (ai fa2t2 (ai fa2g3 (ai fa2t3 (ai fa2g4 (ai fa2t4 (ai fa2g5 fa2t5))))))))))))
 refine sg (ai F5 (ai u1 (ai u2 (ai (H.p 0 rfl) (H.p 1 rfl))))) ?_
 refine H.newR [(.val (.pointer none))] rfl (fun b3 h3 H=>?_)
 refine sg (ai F5 (ai u1 (ai u2 (ai (H.p 0 rfl) (ai (H.p 1 rfl) (H.p 2 rfl)))))) ?_
 refine H.stP 2 [(.optr b2 134 0 0)] rfl rfl rfl rfl (Nat.le_of_ble_eq_true rfl) rfl (fun h4 H=>?_)
 refine sg (ai F5 (ai u1 (ai u2 (ai (H.p 0 rfl) (ai (H.p 1 rfl) (H.p 2 rfl)))))) ?_
 refine Zn (fun h=>Xaa.ok hm h) (fun r4 hm=>?_)
 refine sg (ai F5 (ai u1 (ai u2 (ai (H.p 0 rfl) (ai (H.p 1 rfl) (H.p 2 rfl)))))) ?_
 replace H:=H.addNil 5 (some (41,0))
 replace H:=H.addNil 1 (some (5,0))
 replace H:=H.pm [1,2,3,4]
 refine awp_range (σ:=Zg×(List Zh)×(List Int)×Int) (α:=Int×Ze) (enc:=(fun x=>[(aint x.1),(.agg (Ze.enc x.2))])) (n:=51) rfl [] (fun (s:Zg×(List Zh)×(List Int)×Int) its rs=>match s with | (a1,a2,a3,a4)=>∃ (x1 x2:AV),its = [⟨(.optr b2 134 0 0),true,134,[(List.map (fun v=>AV.val (Value.int IntKind.i64 v)) a1.Widths++[(aint a1.Stretch),(aint a1.Shrink),(.isl 2 (a1.Pats.map Zj.enc)),x1,x2,(aint a4)])],some (59,134)⟩,⟨(.optr b3 1 0 0),true,1,[[(.optr b2 134 0 0)]],some (56,1)⟩,⟨x1,false,5,a2.map Zh.enc,some (41,0)⟩,⟨x2,false,1,a3.map Xj,some (5,0)⟩]∧rs = []) (fun hY hR hS=>W5.ok hm hY hR hS) _ [] ⟨anil,anil,rfl,rfl⟩ H.r (fun _=>rfl) (by rintro ⟨v2,v3⟩ ⟨a1,a2,a3,a4⟩ k K hk hy; exact hk hy.1) ?_ ?_
 ·rintro ⟨v2,v3⟩ ⟨a1,a2,a3,a4⟩ _ _ k1 hb1 h5 hy hI HO
  dsimp only at hy hI
  obtain ⟨_,hm⟩:=hy
  obtain ⟨x1,x2,rfl,rfl⟩:=hI
  replace H:=HO.own
  have F6:=ai fa1g0 (ai fa1t0 (ai fa1g1 (ai fa1t1 (ai fa1g2 (ai fa1t2 (ai (eq_true c1) (ai (eq_true c2) (ai (eq_false c3) (ai (eq_false c4) (ai (eq_true z2) (ai i1 (ai c5 (ai fa2g0 (ai fa2t0 (ai fa2g1 (ai fa2t1 (ai fa2g2 (ai fa2t2 (ai fa2g3 (ai fa2t3 (ai fa2g4 (ai fa2t4 (ai fa2g5 fa2t5)))))))))))))))))))))))
  try simp -implicitDefEqProofs (disch:=omega) only [push_cast,seval,F6,u1,u2,List.drop_zero,setAll,List.zip_cons_cons,List.zip_nil_left,List.foldl_cons,List.foldl_nil,H.p 0 rfl,H.p 1 rfl]
  refine H.newR [(aint 0),(.val (.int .u8 0)),(aint 0)] rfl (fun b4 h7 H=>?_)
  try simp -implicitDefEqProofs (disch:=omega) only [push_cast,seval,F6,u1,u2,List.drop_zero,setAll,List.zip_cons_cons,List.zip_nil_left,List.foldl_cons,List.foldl_nil,H.p 0 rfl,H.p 1 rfl,H.p 4 rfl]
  refine H.stP 4 (Ze.enc v3) rfl rfl rfl rfl (Nat.le_of_ble_eq_true rfl) rfl (fun h8 H=>?_)
  try simp -implicitDefEqProofs (disch:=omega) only [push_cast,seval,F6,u1,u2,List.drop_zero,setAll,List.zip_cons_cons,List.zip_nil_left,List.foldl_cons,List.foldl_nil,H.p 0 rfl,H.p 1 rfl,H.p 4 rfl]
  refine ⟨_,H.r,fun hb2 h6 HO=>?_⟩
  replace H:=HO.own
  try simp -implicitDefEqProofs (disch:=omega) only [push_cast,seval,F6,u1,u2,List.drop_zero,setAll,List.zip_cons_cons,List.zip_nil_left,List.foldl_cons,List.foldl_nil,H.p 0 rfl,H.p 1 rfl,H.p 4 rfl]
  obtain ⟨h9,HF1,hB1⟩:=H.frame [2,3,0] (by decide)
  refine Z1 (Xa.ok hm HF1) ?_
  rintro _ h10 ⟨r5,v4,v5,v6,v7,x3,x4,rfl,H',hm⟩
  replace H:=hB1 _ _ rfl H'
  try simp -implicitDefEqProofs (disch:=omega) only [push_cast,seval,F6,u1,u2,List.drop_zero,setAll,List.zip_cons_cons,List.zip_nil_left,List.foldl_cons,List.foldl_nil,H.p 0 rfl,H.p 1 rfl,H.p 4 rfl]
  replace H:=H.pm [0,1,2,3]
  exact rngQ_of 0 (v4,v5,v6,v7) ⟨x3,x4,rfl,rfl⟩ H.r hm trivial
 ·rintro ⟨a1,a2,a3,a4⟩ n2 _ _ h11 hm hI HO
  dsimp only at hm hI
  obtain ⟨x1,x2,rfl,rfl⟩:=hI
  replace H:=HO.own
  rw [penOf_nil]
  have F7:=ai fa1g0 (ai fa1t0 (ai fa1g1 (ai fa1t1 (ai fa1g2 (ai fa1t2 (ai (eq_true c1) (ai (eq_true c2) (ai (eq_false c3) (ai (eq_false c4) (ai (eq_true z2) (ai i1 (ai c5 (ai fa2g0 (ai fa2t0 (ai fa2g1 (ai fa2t1 (ai fa2g2 (ai fa2t2 (ai fa2g3 (ai fa2t3 (ai fa2g4 (ai fa2t4 (ai fa2g5 fa2t5)))))))))))))))))))))))
  try simp -implicitDefEqProofs (disch:=omega) only [push_cast,seval,F7,u1,u2,List.drop_zero,penOf,apend,H.p 0 rfl,H.p 1 rfl]
  obtain ⟨h12,HF2,hB2⟩:=H.frame [2,3,0] (by decide)
  refine Z1 (Yq.ok hm HF2) ?_
  rintro _ h13 ⟨r6,v8,v9,v10,v11,x5,x6,rfl,H',hm⟩
  replace H:=hB2 _ _ rfl H'
  obtain ⟨z3,hm⟩:=hm
  have fa3g0:∀ r:List AV,(List.map (fun v=>AV.val (Value.int IntKind.i64 v)) v8.Widths++r)[128]? = r[0]?:=fun r=>Zz (k:=0) z3 r
  have fa3t0:∀ r:List AV,(List.map (fun v=>AV.val (Value.int IntKind.i64 v)) v8.Widths++r).take 129 = List.map (fun v=>AV.val (Value.int IntKind.i64 v)) v8.Widths++r.take 1:=fun r=>Zr (k:=1) z3 r
  have fa3g1:∀ r:List AV,(List.map (fun v=>AV.val (Value.int IntKind.i64 v)) v8.Widths++r)[129]? = r[1]?:=fun r=>Zz (k:=1) z3 r
  have fa3t1:∀ r:List AV,(List.map (fun v=>AV.val (Value.int IntKind.i64 v)) v8.Widths++r).take 130 = List.map (fun v=>AV.val (Value.int IntKind.i64 v)) v8.Widths++r.take 2:=fun r=>Zr (k:=2) z3 r
  have fa3g2:∀ r:List AV,(List.map (fun v=>AV.val (Value.int IntKind.i64 v)) v8.Widths++r)[130]? = r[2]?:=fun r=>Zz (k:=2) z3 r
  have fa3t2:∀ r:List AV,(List.map (fun v=>AV.val (Value.int IntKind.i64 v)) v8.Widths++r).take 131 = List.map (fun v=>AV.val (Value.int IntKind.i64 v)) v8.Widths++r.take 3:=fun r=>Zr (k:=3) z3 r
  have fa3g3:∀ r:List AV,(List.map (fun v=>AV.val (Value.int IntKind.i64 v)) v8.Widths++r)[131]? = r[3]?:=fun r=>Zz (k:=3) z3 r
  have fa3t3:∀ r:List AV,(List.map (fun v=>AV.val (Value.int IntKind.i64 v)) v8.Widths++r).take 132 = List.map (fun v=>AV.val (Value.int IntKind.i64 v)) v8.Widths++r.take 4:=fun r=>Zr (k:=4) z3 r
  have fa3g4:∀ r:List AV,(List.map (fun v=>AV.val (Value.int IntKind.i64 v)) v8.Widths++r)[132]? = r[4]?:=fun r=>Zz (k:=4) z3 r
  have fa3t4:∀ r:List AV,(List.map (fun v=>AV.val (Value.int IntKind.i64 v)) v8.Widths++r).take 133 = List.map (fun v=>AV.val (Value.int IntKind.i64 v)) v8.Widths++r.take 5:=fun r=>Zr (k:=5) z3 r
  have fa3g5:∀ r:List AV,(List.map (fun v=>AV.val (Value.int IntKind.i64 v)) v8.Widths++r)[133]? = r[5]?:=fun r=>Zz (k:=5) z3 r
  have fa3t5:∀ r:List AV,(List.map (fun v=>AV.val (Value.int IntKind.i64 v)) v8.Widths++r).take 134 = List.map (fun v=>AV.val (Value.int IntKind.i64 v)) v8.Widths++r.take 6:=fun r=>Zr (k:=6) z3 r
  have F8:=ai F7 (ai fa3g0 (ai fa3t0 (ai fa3g1 (ai fa3t1 (ai fa3g2 (ai fa3t2 (ai fa3g3 (ai fa3t3 (ai fa3g4 (ai fa3t4 (ai fa3g5 fa3t5)))))))))))
  try simp -implicitDefEqProofs (disch:=omega) only [push_cast,seval,F8,u1,u2,List.drop_zero,penOf,apend,Xu (f:=(fun v=>AV.val (Value.int IntKind.i64 v))) z3,Vb (f:=(fun v=>AV.val (Value.int IntKind.i64 v))) z3,H.p 0 rfl,H.p 1 rfl]
  obtain ⟨h14,s1,H⟩:=H.freeze 2 rfl
  exact Zb (.inl rfl) (v9,0) _ rfl (Zf.tup (X8.at s1 [] [_])) H.sub hm
end Go.Proofs.YtpkhmfedaaoalaaGreatDoor
namespace Go.Proofs.YtpkhmfedaaoalaaGreatDoor
open Go Go.Proofs.YtpkhmfedaaoalaaGreatDoor.AM
set_option maxRecDepth 100000
set_option maxHeartbeats 4000000
abbrev Ztb:Nat:=19
def Kea:Nat→Ann
 | 7=>{ pure:=[],plan:=(.op 0 (.op 1 (.op 2 (.op 3 (.op 4 (.op 5 (.op 6 (.op 7 (.op 8 (.op 9 (.op 10 .done))))))))))),ghost:=false,post:=false }
 | _=>{}
noncomputable def Zra:AC:=
 (.seq (.reg [oO 6 (.assign (.const (.bool false)))]) (.seq (.reg [oM 11 0,oO 12 (oK 17 #[(oT 11)] #[9]),oO 13 (oK 18 #[] #[]),oM 14 1,oO 15 (oK 10 #[(oT 12),(oT 13),(oT 14)] #[22,26,3]),oM 10 15,oO 16 (.extract (oT 10) 0),oO 17 (.extract (oT 10) 1),oA 7 16,oA 8 17]) (.seq (.seq (.reg [oM 18 8,oO 19 (.binOp .neq 30 (oT 18) (oC 0) 30),oM 20 19,oG 21 20 false (.move (oT 7)),oG 22 20 false (.call (.mk (.builtin .len) #[(oT 21)] #[33])),oG 23 20 false (.move (oT 2)),oG 24 20 false (.call (.mk (.builtin .len) #[(oT 23)] #[9])),oG 25 20 false (.binOp .neq 3 (oT 22) (oT 24) 3),oO 26 (.pick (oT 20) (.const (.bool true)) (oT 25))]) (.cond (oT 26) (.seq (.reg [oO 6 (.assign (.const (.bool false)))]) .ret) .skip)) (.seq (.seq (.reg [oO 9 (.assign (oC 0))]) (.block 0 (.loop (.seq (.seq (.reg [oM 27 9,oM 28 7,oN 29 28 33,oO 30 (.binOp .lss 3 (oT 27) (oT 29) 3)]) (.cond (oT 30) .skip (.exit 0))) (.seq (.block 1 (.seq (.draw [oM 33 7,oM 34 9,oI 35 33 33 34,oF 36 41 35 0,oL 37 3 36,oM 38 2,oM 39 9,oO 40 (.index 9 (oT 38) (oT 39)),oO 41 (.binOp .sub 5 (oT 40) (oD 48) 5),oO 42 (.convert 5 3 (oT 41)),oO 43 (.binOp .neq 3 (oT 37) (oT 42) 3)] (.op 0 (.op 1 (.op 2 (.op 3 (.op 4 (.op 5 (.op 6 (.op 7 (.op 8 (.op 9 (.op 10 .done)))))))))))) (.cond (oT 43) (.seq (.reg [oO 6 (.assign (.const (.bool false)))]) .ret) .skip))) (.reg [oM 31 9,oO 32 (.binOp .add 3 (oT 31) (oC 1) 3),oA 9 32])))))) (.seq (.reg [oO 6 (.assign (.const (.bool true)))]) .ret)))))
theorem Wfa:EN Zra [(ResultVar.tmp 6)] 44 19:=acE Tryz.func19 (ann:=Kea)
def Ye.w (a0_:ByteArray) (a1_:Int) (a2_:ByteArray) (Q:Bool→Prop):Prop:=
 Yt.w a0_ (fun r1=>
  Wr.w  (fun r2=>
   Jn.w r1 r2 a1_ (fun r3=>
    if r3.2 = 0 then
     if (r3.1.length:Int) = (a2_.size:Int) then
      X2 (σ:=Int) (fun a1 next1=>
       if a1 < (r3.1.length:Int) then
        (0≤a1) ∧
        ∃ v1:Zh,r3.1[a1.toNat]? = some v1 ∧
        ∃ v2:UInt8,a2_[a1.toNat]? = some v2 ∧
        (I64 (IntKind.u8.wrap ((v2.toNat:Int) - 48))) ∧
        if v1.Kind = IntKind.u8.wrap ((v2.toNat:Int) - 48) then
         (I64 (a1+1)) ∧
         next1 (a1+1)
        else
         Q false
       else
        Q true) 0
     else
      Q false
    else
     Q false)))
theorem Ye.ok {a0_:ByteArray} {a1_:Int} {a2_:ByteArray} {Q:Bool→Prop} (hm:Ye.w a0_ a1_ a2_ Q) (h0:Hp):Zo Tryz.prog Ztb [(astr a0_),(aint a1_),(astr a2_)] h0 (Back h0 (fun r=>(Zk r)) Q):=by
 refine Wfa ?_
 unfold Ye.w at hm
 have H:=AM.Own.nil h0
 try simp -implicitDefEqProofs (disch:=omega) only [push_cast,seval,Zra]
 refine Zn (fun h=>Yt.ok hm h) (fun r1 hm=>?_)
 refine sg0 ?_
 refine Zn (fun h=>Wr.ok hm h) (fun r2 hm=>?_)
 refine sg0 ?_
 refine Zn (fun h=>Jn.ok hm h) (fun r3 hm=>?_)
 refine sg0 ?_
 refine gfk' (fun c1=>?_) fun c1=>?_
 ·replace hm:=ifn hm c1
  refine sg (eq_false c1) ?_
  exact Zb (.inl rfl) false _ rfl (Zf.refl _ _) H.sub hm
 replace c1:=Decidable.not_not.1 c1
 replace hm:=ifp hm c1
 refine sg (eq_true c1) ?_
 refine fkc (fun c2=>?_) fun c2=>?_
 ·replace hm:=ifn hm c2
  refine sg (ai (eq_true c1) (eq_false c2)) ?_
  exact Zb (.inl rfl) false _ rfl (Zf.refl _ _) H.sub hm
 replace c2:=Decidable.not_not.1 c2
 replace hm:=ifp hm c2
 refine sg (ai (eq_true c1) (eq_true c2)) ?_
 obtain ⟨inv1,mu1,hi1,hs1⟩:=hm
 replace H:=H.pm []
 refine Z7 (σ:=Int×Hp) (fun ⟨a1,h1⟩=>⟨(((List.replicate 44 AV.any).set 2 (astr a2_)).set 7 (.isl 5 (r3.1.map Zh.enc))).set 9 (aint a1),h1⟩) (fun ⟨a1,h1⟩=>inv1 a1∧AM.Own h0 h1 []) (fun ⟨a1,h1⟩=>mu1 a1) ⟨0,h0⟩ (rtw) ⟨hi1,H⟩ ?_
 rintro ⟨a1,h1⟩ ⟨hi1,H⟩
 have hm:=hs1 _ hi1
 dsimp only at hm H ⊢
 refine sg (ai (eq_true c1) (eq_true c2)) ?_
 refine fkc (fun c3=>?_) fun c3=>?_
 ·replace hm:=ifp hm c3
  obtain ⟨z1,v1,i1,v2,i2,w1,hm⟩:=hm
  have F1:=ai (eq_true c1) (ai (eq_true c2) (ai (eq_true c3) (ai (eq_true z1) (ai i1 (ai i2 (wrap_i64 _ w1))))))
  refine sg F1 ?_
  refine fkc (fun c4=>?_) fun c4=>?_
  ·replace hm:=ifn hm c4
   refine sg (ai F1 (eq_false c4)) ?_
   exact Zb (.inl rfl) false _ rfl (Zf.refl _ _) H.sub hm
  replace c4:=Decidable.not_not.1 c4
  replace hm:=ifp hm c4
  obtain ⟨w2,hm⟩:=hm
  refine sg (ai F1 (ai (eq_true c4) (wrap_i64 _ w2))) ?_
  replace H:=H.pm []
  exact ⟨⟨a1+1,h1⟩,hm.2,⟨hm.1,H⟩,rtw⟩
 replace hm:=ifn hm c3
 refine sg (ai (eq_true c1) (ai (eq_true c2) (eq_false c3))) ?_
 exact Zb (.inl rfl) true _ rfl (Zf.refl _ _) H.sub hm
end Go.Proofs.YtpkhmfedaaoalaaGreatDoor
