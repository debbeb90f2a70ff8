/- ItemsGlues: a part of its proof (packed by a program). -/
import Derived.Test.YtpkhmfedaaoalaaGreatDoorAwk
import Derived.Test.YtpkhmfedaaoalaaGreatDoorWA3
import Derived.Test.YtpkhmfedaaoalaaGreatDoorWA10
import Derived.Test.YtpkhmfedaaoalaaGreatDoorWA11
import Derived.Test.YtpkhmfedaaoalaaGreatDoorWA15
set_option linter.all false
namespace Go.Proofs.YtpkhmfedaaoalaaGreatDoor
open Go Go.Proofs.YtpkhmfedaaoalaaGreatDoor.AM
set_option maxRecDepth 100000
set_option maxHeartbeats 4000000
abbrev Zub:Nat:=7
noncomputable def Zsa:AC:=
 (.seq (.reg [oO 0 (.assign (.const (.bool false)))]) (.seq (.reg [oO 4 (.call (.mk (.value (.func 17)) #[(.const (.string (ByteArray.mk #[123,112,32,97,32,98,125])))] #[9])),oO 5 (oK 18 #[] #[]),oO 6 (oK 10 #[(oT 4),(oT 5),(oC 0)] #[22,26,3]),oM 3 6,oO 7 (.extract (oT 3) 0),oO 8 (.extract (oT 3) 1),oA 1 7,oA 2 8]) (.seq (.reg [oM 9 2,oO 10 (.binOp .eql 30 (oT 9) (oC 0) 30),oM 11 10,oG 12 11 true (.move (oT 1)),oG 13 11 true (.call (.mk (.builtin .len) #[(oT 12)] #[33])),oG 14 11 true (.binOp .eql 3 (oT 13) (oC 3) 3),oO 15 (.pick (oT 11) (oT 14) (.const (.bool false))),oM 16 15,oG 17 16 true (.move (oT 1)),oG 18 16 true (.indexAddr 33 (oT 17) (oC 0)),oG 19 16 true (.fieldAddr 41 (oT 18) 1),oG 20 16 true (.load 3 (oT 19)),oG 21 16 true (.binOp .eql 3 (oT 20) (oC 500) 3),oO 22 (.pick (oT 16) (oT 21) (.const (.bool false))),oM 23 22,oG 24 23 true (.move (oT 1)),oG 25 23 true (.indexAddr 33 (oT 24) (oC 1)),oG 26 23 true (.fieldAddr 41 (oT 25) 1),oG 27 23 true (.load 3 (oT 26)),oG 28 23 true (.binOp .eql 3 (oT 27) (oC 250) 3),oO 29 (.pick (oT 23) (oT 28) (.const (.bool false))),oM 30 29,oG 31 30 true (.move (oT 1)),oG 32 30 true (.indexAddr 33 (oT 31) (oC 1)),oG 33 30 true (.fieldAddr 41 (oT 32) 3),oG 34 30 true (.load 3 (oT 33)),oG 35 30 true (.binOp .eql 3 (oT 34) (oC 80) 3),oO 36 (.pick (oT 30) (oT 35) (.const (.bool false))),oM 37 36,oG 38 37 true (.call (.mk (.value (.func 19)) #[(.const (.string (ByteArray.mk #[123,112,32,97,32,98,125]))),(oC 0),(.const (.string (ByteArray.mk #[49,50,49])))] #[9,3,9])),oO 39 (.pick (oT 37) (oT 38) (.const (.bool false))),oM 40 39,oG 41 40 true (.call (.mk (.value (.func 19)) #[(.const (.string (ByteArray.mk #[123,112,32,97,123,110,32,120,125,46,125]))),(oC 0),(.const (.string (ByteArray.mk #[49,52,49])))] #[9,3,9])),oO 42 (.pick (oT 40) (oT 41) (.const (.bool false))),oM 43 42,oG 44 43 true (.call (.mk (.value (.func 19)) #[(.const (.string (ByteArray.mk #[123,112,32,97,123,110,32,120,125,46,125]))),(oC 2),(.const (.string (ByteArray.mk #[49])))] #[9,3,9])),oO 45 (.pick (oT 43) (oT 44) (.const (.bool false))),oM 46 45,oG 47 46 true (.call (.mk (.value (.func 19)) #[(.const (.string (ByteArray.mk #[123,112,32,108,101,116,116,101,114,125]))),(oC 0),(.const (.string (ByteArray.mk #[49,49,51,49,49,49,49])))] #[9,3,9])),oO 48 (.pick (oT 46) (oT 47) (.const (.bool false))),oM 49 48,oG 50 49 true (.call (.mk (.value (.func 19)) #[(.const (.string (ByteArray.mk #[123,112,32,108,101,123,101,32,116,116,101,114,125,125]))),(oC 0),(.const (.string (ByteArray.mk #[49,49,49,49,49,49])))] #[9,3,9])),oO 51 (.pick (oT 49) (oT 50) (.const (.bool false))),oA 0 51]) .ret)))
theorem Wga:EN Zsa [(ResultVar.tmp 0)] 52 7:=acE Tryz.func7 (ann:=Yy)
def Yh.w (Q:Bool→Prop):Prop:=
 Yt.w (ByteArray.mk #[123,112,32,97,32,98,125]) (fun r1=>
  Wr.w  (fun r2=>
   Jn.w r1 r2 0 (fun r3=>
    if r3.2 = 0 then
     if (r3.1.length:Int) = 3 then
      ∃ v1:Zh,r3.1[0]? = some v1 ∧
      if v1.Width = 500 then
       ∃ v2:Zh,r3.1[1]? = some v2 ∧
       if v2.Width = 250 then
        if v2.Shrink = 80 then
         Ye.w (ByteArray.mk #[123,112,32,97,32,98,125]) 0 (ByteArray.mk #[49,50,49]) (fun r4=>
          if r4 = true then
           Ye.w (ByteArray.mk #[123,112,32,97,123,110,32,120,125,46,125]) 0 (ByteArray.mk #[49,52,49]) (fun r5=>
            if r5 = true then
             Ye.w (ByteArray.mk #[123,112,32,97,123,110,32,120,125,46,125]) 2 (ByteArray.mk #[49]) (fun r6=>
              if r6 = true then
               Ye.w (ByteArray.mk #[123,112,32,108,101,116,116,101,114,125]) 0 (ByteArray.mk #[49,49,51,49,49,49,49]) (fun r7=>
                if r7 = true then
                 Ye.w (ByteArray.mk #[123,112,32,108,101,123,101,32,116,116,101,114,125,125]) 0 (ByteArray.mk #[49,49,49,49,49,49]) (fun r8=>
                  Q r8)
                else
                 Q false)
              else
               Q false)
            else
             Q false)
          else
           Q false)
        else
         Q false
       else
        Q false
      else
       Q false
     else
      Q false
    else
     Q false)))
theorem Yh.ok {Q:Bool→Prop} (hm:Yh.w Q) (h0:Hp):Zo Tryz.prog Zub [] h0 (Back h0 (fun r=>(Zk r)) Q):=by
 refine Wga ?_
 unfold Yh.w at hm
 have H:=AM.Own.nil h0
 try simp -implicitDefEqProofs (disch:=omega) only [push_cast,seval,Zsa]
 refine Zn (fun h=>Yt.ok hm h) (fun r1 hm=>?_)
 refine sg0 ?_
 refine Zn (fun h=>Wr.ok hm h) (fun r2 hm=>?_)
 refine sg0 ?_
 refine Zn (fun h=>Jn.ok hm h) (fun r3 hm=>?_)
 refine sg0 ?_
 refine gfk (fun c1=>?_) fun c1=>?_
 ·replace hm:=ifp hm c1
  refine sg (eq_true c1) ?_
  refine gfk (fun c2=>?_) fun c2=>?_
  ·replace hm:=ifp hm c2
   obtain ⟨v1,i1,hm⟩:=hm
   refine sg (ai (eq_true c1) (ai (eq_true c2) i1)) ?_
   refine gfk (fun c3=>?_) fun c3=>?_
   ·replace hm:=ifp hm c3
    obtain ⟨v2,i2,hm⟩:=hm
    have F1:=ai (eq_true c1) (ai (eq_true c2) (ai i1 (ai (eq_true c3) i2)))
    refine sg F1 ?_
    refine gfk (fun c4=>?_) fun c4=>?_
    ·replace hm:=ifp hm c4
     refine sg (ai F1 (eq_true c4)) ?_
     refine gfk (fun c5=>?_) fun c5=>?_
     ·replace hm:=ifp hm c5
      refine sg (ai F1 (ai (eq_true c4) (eq_true c5))) ?_
      refine Zn (fun h=>Ye.ok hm h) (fun r4 hm=>?_)
      refine sg (ai F1 (ai (eq_true c4) (eq_true c5))) ?_
      rw [Kh]
      refine ⟨fun c6=>?_,fun c6=>?_⟩
      ·replace hm:=ifp hm c6
       refine sg (ai F1 (ai (eq_true c4) (ai (eq_true c5) c6))) ?_
       refine Zn (fun h=>Ye.ok hm h) (fun r5 hm=>?_)
       refine sg (ai F1 (ai (eq_true c4) (ai (eq_true c5) c6))) ?_
       rw [Kh]
       refine ⟨fun c7=>?_,fun c7=>?_⟩
       ·replace hm:=ifp hm c7
        have F2:=ai F1 (ai (eq_true c4) (ai (eq_true c5) (ai c6 c7)))
        refine sg F2 ?_
        refine Zn (fun h=>Ye.ok hm h) (fun r6 hm=>?_)
        refine sg F2 ?_
        rw [Kh]
        refine ⟨fun c8=>?_,fun c8=>?_⟩
        ·replace hm:=ifp hm c8
         refine sg (ai F2 c8) ?_
         refine Zn (fun h=>Ye.ok hm h) (fun r7 hm=>?_)
         refine sg (ai F2 c8) ?_
         rw [Kh]
         refine ⟨fun c9=>?_,fun c9=>?_⟩
         ·replace hm:=ifp hm c9
          refine sg (ai F2 (ai c8 c9)) ?_
          refine Zn (fun h=>Ye.ok hm h) (fun r8 hm=>?_)
          refine sg (ai F2 (ai c8 c9)) ?_
          exact Zb (.inl rfl) r8 _ rfl (Zf.refl _ _) H.sub hm
         replace hm:=ifn hm (by rw [c9]; exact Bool.false_ne_true)
         refine sg (ai F2 (ai c8 c9)) ?_
         exact Zb (.inl rfl) false _ rfl (Zf.refl _ _) H.sub hm
        replace hm:=ifn hm (by rw [c8]; exact Bool.false_ne_true)
        refine sg (ai F2 c8) ?_
        exact Zb (.inl rfl) false _ rfl (Zf.refl _ _) H.sub hm
       replace hm:=ifn hm (by rw [c7]; exact Bool.false_ne_true)
       have F3:=ai F1 (ai (eq_true c4) (ai (eq_true c5) (ai c6 c7)))
       refine sg F3 ?_
       exact Zb (.inl rfl) false _ rfl (Zf.refl _ _) H.sub hm
      replace hm:=ifn hm (by rw [c6]; exact Bool.false_ne_true)
      refine sg (ai F1 (ai (eq_true c4) (ai (eq_true c5) c6))) ?_
      exact Zb (.inl rfl) false _ rfl (Zf.refl _ _) H.sub hm
     replace hm:=ifn hm c5
     refine sg (ai F1 (ai (eq_true c4) (eq_false c5))) ?_
     exact Zb (.inl rfl) false _ rfl (Zf.refl _ _) H.sub hm
    replace hm:=ifn hm c4
    refine sg (ai F1 (eq_false c4)) ?_
    exact Zb (.inl rfl) false _ rfl (Zf.refl _ _) H.sub hm
   replace hm:=ifn hm c3
   refine sg (ai (eq_true c1) (ai (eq_true c2) (ai i1 (eq_false c3)))) ?_
   exact Zb (.inl rfl) false _ rfl (Zf.refl _ _) H.sub hm
  replace hm:=ifn hm c2
  refine sg (ai (eq_true c1) (eq_false c2)) ?_
  exact Zb (.inl rfl) false _ rfl (Zf.refl _ _) H.sub hm
 replace hm:=ifn hm c1
 refine sg (eq_false c1) ?_
 exact Zb (.inl rfl) false _ rfl (Zf.refl _ _) H.sub hm
abbrev n_items_Flows:Nat:=8
noncomputable def Zab:AC:=
 (.seq (.reg [oO 2 (.assign (.const (.slice none 0 0))),oO 3 (.assign (oC 0))]) (.seq (.seq (.reg [oM 10 0,oO 11 (oK 20 #[(oT 10)] #[22]),oM 9 11,oO 12 (.extract (oT 9) 0),oO 13 (.extract (oT 9) 1),oA 4 12,oA 5 13]) (.seq (.reg [oM 14 5,oO 15 (.binOp .neq 30 (oT 14) (oC 0) 30)]) (.cond (oT 15) (.seq (.reg [oM 16 5,oO 2 (.assign (.const (.slice none 0 0))),oA 3 16]) .ret) .skip))) (.seq (.reg [oO 6 (.assign (.const (.slice none 0 0)))]) (.seq (.seq (.reg [oM 17 0,oN 18 17 22,oO 19 (.move (oC 0))]) (.block 0 (.loop (.seq (.reg [oO 20 (.binOp .lss 3 (oT 19) (oT 18) 3)]) (.seq (.cond (oT 20) .skip (.exit 0)) (.seq (.block 1 (.seq (.reg [oM 21 19,oI 22 22 17 19,oL 23 43 22,oO 8 (.alloc 43),oA 7 21,oS (.store 43 (oT 8) (oT 23))]) (.seq (.reg [oL 24 43 8,oO 25 (oK 21 #[(oT 24)] #[43])]) (.cond (oT 25) (.reg [oM 26 6,oM 27 7,oO 28 (.buildSlice 29 1 #[(0,(oT 27))]),oO 29 (.call (.mk (.builtin .append) #[(oT 26),(oT 28)] #[29,29])),oA 6 29]) .skip)))) (.reg [oO 30 (.binOp .add 3 (oT 19) (oC 1) 3),oM 19 30]))))))) (.seq (.reg [oM 31 6,oA 2 31,oO 3 (.assign (oC 0))]) .ret)))))
theorem enter_items_Flows:EN Zab [(ResultVar.tmp 2),(ResultVar.tmp 3)] 32 8:=acE Tryz.func8 (ann:=Yy)
def K7.w (a0_:List Ze) (Q:((List Int)×Int)→Prop):Prop:=
 Jo.w a0_ (fun r1=>
  if r1.2 = 0 then
   X2 (σ:=(List Int)×Int) (fun ⟨a1,a2⟩ next1=>
    if a2 < (a0_.length:Int) then
     (0≤a2) ∧
     ∃ v1:Ze,a0_[a2.toNat]? = some v1 ∧
     Wv.w v1 (fun r2=>
      if r2 = true then
       ((a1.length+([a2]:List Int).length) * 8≤140737488355328) ∧
       (I64 (a2+1)) ∧
       next1 (a1++([a2]:List Int),a2+1)
      else
       (I64 (a2+1)) ∧
       next1 (a1,a2+1))
    else
     Q (a1,0)) (([]:List Int),0)
  else
   Q (([]:List Int),r1.2))
theorem K7.ok {a0_:List Ze} {Q:((List Int)×Int)→Prop} (hm:K7.w a0_ Q) (h0:Hp):Zo Tryz.prog n_items_Flows [(.isl 3 (a0_.map Ze.enc))] h0 (Back h0 (fun r=>.tup [(.isl 1 (r.1.map Yd)),(aint r.2)]) Q):=by
 refine enter_items_Flows ?_
 unfold K7.w at hm
 have H:=AM.Own.nil h0
 try simp -implicitDefEqProofs (disch:=omega) only [push_cast,seval,Zab]
 refine Zn (fun h=>Jo.ok hm h) (fun r1 hm=>?_)
 refine sg0 ?_
 refine fkc (fun c1=>?_) fun c1=>?_
 ·replace hm:=ifn hm c1
  refine sg (eq_false c1) ?_
  exact Zb (.inl rfl) (([]:List Int),r1.2) _ rfl (Zf.tup (X8.at (Zf.nil _ 1) [] [_])) H.sub hm
 replace c1:=Decidable.not_not.1 c1
 replace hm:=ifp hm c1
 refine sg (eq_true c1) ?_
 obtain ⟨inv1,mu1,hi1,hs1⟩:=hm
 replace H:=H.addNil 1 (some (3,0))
 replace H:=H.pm [0]
 refine Z7 (σ:=((List Int)×Int)×AV×Hp) (fun ⟨⟨a1,a2⟩,x1,h1⟩=>⟨((((List.replicate 32 AV.any).set 6 x1).set 17 (.isl 3 (a0_.map Ze.enc))).set 18 (aint (a0_.length:Int))).set 19 (aint a2),h1⟩) (fun ⟨⟨a1,a2⟩,x1,h1⟩=>inv1 (a1,a2)∧AM.Own h0 h1 [⟨x1,false,1,a1.map Yd,some (3,0)⟩]) (fun ⟨⟨a1,a2⟩,x1,h1⟩=>mu1 (a1,a2)) ⟨(([]:List Int),0),anil,h0⟩ (rtw) ⟨hi1,H⟩ ?_
 rintro ⟨⟨a1,a2⟩,x1,h1⟩ ⟨hi1,H⟩
 have hm:=hs1 _ hi1
 dsimp only at hm H ⊢
 refine sg (eq_true c1) ?_
 refine fkc (fun c2=>?_) fun c2=>?_
 ·replace hm:=ifp hm c2
  obtain ⟨z1,v1,i1,hm⟩:=hm
  refine sg (ai (eq_true c1) (ai (eq_true c2) (ai (eq_true z1) i1))) ?_
  refine H.newR [(aint 0),(.val (.int .u8 0)),(aint 0)] rfl (fun b1 h2 H=>?_)
  refine sg (ai (eq_true c1) (ai (eq_true c2) (ai (eq_true z1) (ai i1 (H.p 1 rfl))))) ?_
  refine H.stP 1 (Ze.enc v1) rfl rfl rfl rfl (Nat.le_of_ble_eq_true rfl) rfl (fun h3 H=>?_)
  refine sg (ai (eq_true c1) (ai (eq_true c2) (ai (eq_true z1) (ai i1 (H.p 1 rfl))))) ?_
  refine Zn (fun h=>Wv.ok hm h) (fun r2 hm=>?_)
  refine sg (ai (eq_true c1) (ai (eq_true c2) (ai (eq_true z1) (ai i1 (H.p 1 rfl))))) ?_
  rw [Zw]
  refine ⟨fun c3=>?_,fun c3=>?_⟩
  ·replace hm:=ifp hm c3
   have F1:=ai (eq_true c1) (ai (eq_true c2) (ai (eq_true z1) (ai i1 c3)))
   refine sg (ai F1 (H.p 1 rfl)) ?_
   refine H.newL (E:=Yd) ([a2]:List Int) rfl rfl (fun b2 h4 H=>?_)
   refine sg (ai F1 (ai (H.src (e:=3) 2 rfl) (H.p 1 rfl))) ?_
   obtain ⟨w1,hm⟩:=hm
   refine H.appL (E:=Yd) 0 ([a2]:List Int) rfl rfl rfl (by decide) (by decide) w1 (fun x2 h5 H=>?_)
   obtain ⟨w2,hm⟩:=hm
   refine sg (ai F1 (ai (wrap_i64 _ w2) (H.p 1 rfl))) ?_
   replace H:=H.pm [0]
   exact ⟨⟨(a1++([a2]:List Int),a2+1),x2,h5⟩,hm.2,⟨hm.1,H⟩,rtw⟩
  replace hm:=ifn hm (by rw [c3]; exact Bool.false_ne_true)
  obtain ⟨w3,hm⟩:=hm
  have F2:=ai (eq_true c1) (ai (eq_true c2) (ai (eq_true z1) (ai i1 (ai c3 (wrap_i64 _ w3)))))
  refine sg (ai F2 (H.p 1 rfl)) ?_
  replace H:=H.pm [0]
  exact ⟨⟨(a1,a2+1),x1,h3⟩,hm.2,⟨hm.1,H⟩,rtw⟩
 replace hm:=ifn hm c2
 refine sg (ai (eq_true c1) (eq_false c2)) ?_
 obtain ⟨h6,s1,H⟩:=H.freeze 0 rfl
 exact Zb (.inl rfl) (a1,0) _ rfl (Zf.tup (X8.at s1 [] [_])) H.sub hm
end Go.Proofs.YtpkhmfedaaoalaaGreatDoor
