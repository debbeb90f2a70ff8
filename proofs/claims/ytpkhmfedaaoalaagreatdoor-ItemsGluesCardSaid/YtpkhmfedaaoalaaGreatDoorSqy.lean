/- ItemsGlues: a part of its proof (packed by a program). -/
import Derived.Test.YtpkhmfedaaoalaaGreatDoorPln
import Derived.Test.YtpkhmfedaaoalaaGreatDoorWA0
set_option linter.all false
namespace Go.Proofs.YtpkhmfedaaoalaaGreatDoor.Sq
open Go Go.Proofs.YtpkhmfedaaoalaaGreatDoor.AM
set_option maxHeartbeats 40000000
set_option maxRecDepth 100000
abbrev n_norm_squeezed_1:Nat:=151
def Z6b:Nat→Ann
 | 1=>{ pure:=[],plan:=(.op 0 (.op 1 (.op 2 (.op 3 (.op 4 (.op 5 (.op 6 (.op 7 (.op 8 (.op 9 (.op 10 (.op 11 .done)))))))))))),ghost:=false,post:=false }
 | _=>{}
noncomputable def Ku:AC:=
 (.seq (.reg [oL 23 57 2,oM 24 1,oO 25 (.buildSlice 57 1 #[(0,(oT 24))]),oO 26 (.call (.mk (.builtin .append) #[(oT 23),(oT 25)] #[57,57])),oS (.store 57 (oT 2) (oT 26))]) (.reg [oL 27 187 6,oM 28 1,oL 29 3 4,oO 30 (.build 189 #[(0,(oT 28)),(1,(oT 29))]),oO 31 (.nilCheck (oT 27)),oF 32 191 31 0,oS (.store 189 (oT 32) (oT 30))]))
noncomputable def Yta:AC:=
 (.seq (.seq (.reg [oL 9 57 2,oN 10 9 57,oO 11 (.binOp .eql 3 (oT 10) (oC 0) 3)]) (.cond (oT 11) (.draw [oL 12 51 5,oL 13 3 4,oL 14 51 3,oL 15 3 4,oI 16 51 14 15,oF 17 103 16 2,oL 18 3 17,oM 19 0,oO 20 (.binOp .add 3 (oT 18) (oT 19) 3),oI 21 51 12 13,oF 22 103 21 2,oS (.store 3 (oT 22) (oT 20))] (.op 0 (.op 1 (.op 2 (.op 3 (.op 4 (.op 5 (.op 6 (.op 7 (.op 8 (.op 9 (.op 10 (.op 11 .done))))))))))))) .skip)) Ku)
theorem V4a:EN Yta [] 33 151:=acE Tryz.func151 (ann:=Z6b)
def keepI (bt bo bi bf br bb:Nat) (xo xb:AV) (t out:List Za) (i:Int) (c0 a0:Int) (bs:List Int):List Itm:=
 [⟨.optr bt 1 0 0,true,1,[[.isl 4 (t.map Za.enc)]],some (51,1)⟩,⟨xo,false,4,out.map Za.enc,some (103,0)⟩,⟨.optr bo 1 0 0,true,1,[[xo]],some (51,1)⟩,
  ⟨.optr bi 1 0 0,true,1,[[aint i]],some (3,1)⟩,⟨.optr bf 1 0 0,true,1,[[.optr br 2 0 0]],some (187,1)⟩,⟨.optr br 2 0 0,true,2,[[.val (.int .u8 c0),aint a0]],some (191,2)⟩,
  ⟨xb,false,1,bs.map Xj,some (5,0)⟩,⟨.optr bb 1 0 0,true,1,[[xb]],some (57,1)⟩]
theorem keep_tail {bt bo bi bf br bb:Nat} {xo xb:AV} {t out:List Za} {i c0 a0:Int} {bs:List Int} {h0 h:Hp} (H:AM.Own h0 h (keepI bt bo bi bf br bb xo xb t out i c0 a0 bs)) {c:Int} (hs:(bs.length+([c]:List Int).length) * 1≤140737488355328)
  {tm:List AV} (hL:Like tm ((((((List.replicate 33 none).set 1 (some (.val (.int .u8 c)))).set 2 (some (.optr bb 1 0 0))).set 4 (some (.optr bi 1 0 0))).set 6 (some (.optr bf 1 0 0))))) {Q:AX→St→Prop}
  (hQ:∀ xb' tm' h',AM.Own h0 h' (keepI bt bo bi bf br bb xo xb' t out i c i (bs++[c]))→Q .norm ⟨tm',h'⟩):awp Tryz.prog tab Ku Q ⟨tm,h⟩:=by
 obtain ⟨D,rfl⟩:=hL.fill 0
 unfold keepI at H
 try simp -implicitDefEqProofs (disch:=omega) only [push_cast,seval,Ku,H.p 4 rfl,H.p 7 rfl]
 refine H.newL (E:=Xj) ([c]:List Int) rfl rfl (fun b1 h1 H=>?_)
 refine sg (H.src (e:=5) 8 rfl) ?_
 refine H.appL (E:=Xj) 6 ([c]:List Int) rfl rfl rfl (by decide) (by decide) hs (fun x1 h2 H=>?_)
 refine sg (H.p 7 rfl) ?_
 refine H.stP 7 [x1] rfl (H.ok 6 rfl).1 (H.ok 6 rfl).2 rfl (Nat.le_of_ble_eq_true rfl) rfl (fun h3 H=>?_)
 refine sg (ai (H.p 3 rfl) (ai (H.p 4 rfl) (H.p 5 rfl))) ?_
 refine H.stP 5 [.val (.int .u8 c),aint i] rfl rfl rfl rfl (Nat.le_of_ble_eq_true rfl) rfl (fun h4 H=>?_)
 refine sg0 ?_
 exact hQ _ _ _ (H.take 8)
theorem keep_ok {bt bo bi bf br bb:Nat} {xo xb:AV} {t out:List Za} {i c0 a0:Int} {bs:List Int} {h0 h:Hp} (H:AM.Own h0 h (keepI bt bo bi bf br bb xo xb t out i c0 a0 bs)) {x y:Za} (hi:0≤i) (hx:t[i.toNat]? = some x) (hy:out[i.toNat]? = some y)
  (at_ c:Int) (hs:(bs.length+([c]:List Int).length) * 1≤140737488355328) :
  Zo Tryz.prog n_norm_squeezed_1 [aint at_,.val (.int .u8 c),.optr bb 1 0 0,.optr bt 1 0 0,.optr bi 1 0 0,.optr bo 1 0 0,.optr bf 1 0 0] h fun e h'=>∃ xo' xb',e = .ret (.tup []) ∧
   AM.Own h0 h' (keepI bt bo bi bf br bb xo' xb' t (if bs.length = 0 then out.set i.toNat { y with At:=IntKind.i64.wrap (x.At+at_) } else out) i c i (bs++[c])):=by
 refine V4a ?_
 have H0:=H
 unfold keepI at H
 try simp -implicitDefEqProofs (disch:=omega) only [push_cast,seval,Yta,H.p 0 rfl,H.p 2 rfl,H.p 3 rfl,H.p 4 rfl,H.p 5 rfl,H.p 7 rfl,H.lenE 6 rfl Ja]
 refine fkc (fun c1=>?_) fun c1=>?_
 ·obtain ⟨b1,o1,rfl,qb,qc,qd,qe⟩:=H.row (k:=i.toNat) (r:=Za.enc y) 1 rfl (gmp hy)
  try rw [List.length_map] at qe
  have qe:=eq_true qe
  rw [List.length_map] at H
  have hi':=eq_true hi
  refine sg (ai hi' (ai hx (ai qb (ai qc (ai qd (ai qe (ai (H.p 0 rfl) (ai (H.p 2 rfl) (H.p 3 rfl))))))))) ?_
  refine H.stL 1 { y with At:=IntKind.i64.wrap (x.At+at_) } rfl hy rfl rfl rfl (Nat.le_of_ble_eq_true rfl) rfl (fun h1 H=>?_)
  refine sg0 ?_
  refine keep_tail (H.eq (by rfl)) (t:=t) (out:=out.set i.toNat { y with At:=IntKind.i64.wrap (x.At+at_) }) (xo:=.osl b1 4 0 out.length) hs lkt (fun xb' tm' h' H=>?_)
  refine Yx (.inr rfl) rfl ?_
  rw [if_pos (by omega)]; exact ⟨_,_,rfl,H⟩
 ·refine sg0 ?_
  refine keep_tail H0 hs lkt (fun xb' tm' h' H=>?_)
  refine Yx (.inr rfl) rfl ?_
  rw [if_neg (by omega)]; exact ⟨_,_,rfl,H⟩
def SqInv (s:List Int) (c0 a0 i:Int) (x:Za) (out:List Za) (k:Nat) (bs:List Int) (c a:Int) (out':List Za):Prop:=
 (sqT s c0).1 = bs++(sqT (s.drop k) c).1∧(sqT s c0).2 = (sqT (s.drop k) c).2∧bs.length≤k∧k≤s.length ∧
 (bs.length = 0→c = c0∧a = a0∧out' = out∧sqK (s.drop k) c0 k = sqK s c0 0) ∧
 (bs.length≠0→a = i∧∃ k0,sqK s c0 0 = some k0∧out' = out.set i.toNat { x with At:=IntKind.i64.wrap (x.At+k0) })
theorem SqInv.begin (s:List Int) (c0 a0 i:Int) (x:Za) (out:List Za):SqInv s c0 a0 i x out 0 [] c0 a0 out:=
 ⟨rfl,rfl,Nat.le_refl _,Nat.zero_le _,fun _=>⟨rfl,rfl,rfl,rfl⟩,fun h=>(h rfl).elim⟩
section
variable {s:List Int} {c0 a0 i:Int} {x:Za} {out:List Za} {k:Nat} {bs:List Int} {c a v:Int} {out':List Za}
theorem drop_at (hv:s[k]? = some v):s.drop k = v :: s.drop (k+1):=by
 have:=List.getElem?_eq_some_iff.1 hv
 rw [List.drop_eq_getElem_cons this.1,this.2]
theorem SqInv.skip (h:SqInv s c0 a0 i x out k bs c a out') (hv:s[k]? = some v) (hw:isW v = true) (hb:c = 0∨c = 32):SqInv s c0 a0 i x out (k+1) bs c a out':=by
 obtain ⟨h1,h2,h3,h4,h5,h6⟩:=h
 have hl:=(List.getElem?_eq_some_iff.1 hv).1
 rw [drop_at hv] at h1 h2 h5
 simp only [sqT,hw,if_true,hb] at h1 h2
 refine ⟨h1,h2,by omega,by omega,fun e=>?_,h6⟩
 obtain ⟨q1,q2,q3,q4⟩:=h5 e
 refine ⟨q1,q2,q3,?_⟩
 rw [← q4]
 subst q1
 have:(isW v && (decide (c = 0) || decide (c = 32))) = true:=by simp [hw,hb]
 simp only [sqK,this,if_true]
 norm_cast
theorem SqInv.put (h:SqInv s c0 a0 i x out k bs c a out') (hv:s[k]? = some v) (hx:out[i.toNat]? = some x) {y:Za} (hy:out'[i.toNat]? = some y) {u:Int}
  (hu:(isW v = false∧u = v)∨(isW v = true∧c≠0∧c≠32∧u = 32)) :
  SqInv s c0 a0 i x out (k+1) (bs++[u]) u i (if bs.length = 0 then out'.set i.toNat { y with At:=IntKind.i64.wrap (x.At+(k:Int)) } else out'):=by
 obtain ⟨h1,h2,h3,h4,h5,h6⟩:=h
 have hl:=(List.getElem?_eq_some_iff.1 hv).1
 rw [drop_at hv] at h1 h2 h5
 have e1:sqT (v :: s.drop (k+1)) c = (u :: (sqT (s.drop (k+1)) u).1,(sqT (s.drop (k+1)) u).2):=by
  rcases hu with ⟨hw,rfl⟩ | ⟨hw,n1,n2,rfl⟩
  ·simp [sqT,hw]
  ·simp [sqT,hw,n1,n2]
 rw [e1] at h1 h2
 refine ⟨by simpa using h1,h2,by simp; omega,by omega,fun e=>by simp at e,fun _=>⟨rfl,?_⟩⟩
 by_cases e:bs.length = 0
 ·obtain ⟨q1,q2,q3,q4⟩:=h5 e
  subst q1; subst q3
  rw [hx] at hy; cases hy
  rw [if_pos e]
  refine ⟨k,?_,rfl⟩
  rw [← q4]
  have:(isW v && (decide (c = 0) || decide (c = 32))) = false:=by
   rcases hu with ⟨hw,_⟩ | ⟨hw,n1,n2,_⟩
   ·simp [hw]
   ·simp [n1,n2]
  simp only [sqK,this]
  rfl
 ·rw [if_neg e]
  exact (h6 e).2
end
abbrev Vva:Nat:=125
def ann_norm_squeezed:Nat→Ann
 | 11=>{ pure:=[],plan:=(.op 0 (.op 1 (.op 2 (.op 3 (.op 4 (.op 5 (.op 6 .done))))))),ghost:=false,post:=false }
 | 28=>{ pure:=[15],plan:=(.op 0 (.op 1 (.op 2 (.op 3 (.op 4 (.op 5 (.op 6 (.op 7 (.op 8 (.op 9 (.op 10 (.op 11 (.op 12 (.op 13 (.op 14 (.op 15 (.op 16 (.op 17 (.op 18 .done))))))))))))))))))),ghost:=false,post:=false }
 | _=>{}
noncomputable def Jt:AC:=
 (.block 2 (.loop (.seq (.reg [oO 56 (.binOp .lss 3 (oT 55) (oT 54) 3)]) (.seq (.cond (oT 56) .skip (.exit 2)) (.seq (.block 3 (.seq (.reg [oM 57 55,oI 58 57 53 55,oL 59 5 58,oA 10 57,oA 11 59]) (.block 4 (.seq (.reg [oM 61 11,oO 62 (oK 117 #[(oT 61)] #[5]),oO 63 (.unOp .not 4 (oT 62)),oA 60 63]) (.cond (oT 60) (.reg [oM 64 9,oM 65 10,oM 66 11,oO 67 (.call (.mk (.value (oT 64)) #[(oT 65),(oT 66)] #[3,5]))]) (.seq (.reg [oL 69 187 7,oO 70 (.nilCheck (oT 69)),oF 71 191 70 0,oL 72 189 71,oO 73 (oK 152 #[(oT 72)] #[189]),oO 74 (.unOp .not 4 (oT 73)),oA 68 74]) (.cond (oT 68) (.reg [oM 75 9,oM 76 10,oO 77 (.call (.mk (.value (oT 75)) #[(oT 76),(oD 32)] #[3,5]))]) .skip))))))) (.reg [oO 78 (.binOp .add 3 (oT 55) (oC 1) 3),oM 55 78]))))))
noncomputable def Ju:AC:=
 (.seq (.reg [oO 8 (.alloc 57)]) (.seq (.reg [oO 47 (.makeFunc (Fn.func 151) #[] #[(oT 8),(oT 1),(oT 6),(oT 3),(oT 7)]),oA 9 47]) (.seq (.seq (.reg [oL 48 51 1,oL 49 3 6,oI 50 51 48 49,oF 51 103 50 1,oL 52 9 51,oO 53 (.convert 9 57 (oT 52)),oN 54 53 57,oO 55 (.move (oC 0))]) Jt) (.reg [oL 79 51 3,oL 80 3 6,oL 81 57 8,oO 82 (.convert 57 9 (oT 81)),oI 83 51 79 80,oF 84 103 83 1,oS (.store 9 (oT 84) (oT 82))]))))
noncomputable def Js:AC:=
 (.block 0 (.loop (.seq (.reg [oO 23 (.binOp .lss 3 (oT 22) (oT 21) 3)]) (.seq (.cond (oT 23) .skip (.exit 0)) (.seq (.block 1 (.seq (.reg [oM 24 22,oO 6 (.alloc 3),oS (.store 3 (oT 6) (oT 24))]) (.seq (.seq (.reg [oL 25 51 1,oL 26 3 6,oI 27 51 25 26,oF 28 103 27 0,oL 29 5 28,oO 30 (.binOp .neq 5 (oT 29) (oD 46) 5)]) (.cond (oT 30) (.exit 1) .skip)) (.seq (.reg [oM 31 4,oM 32 5,oL 33 3 6,oI 34 29 32 33,oL 35 3 34,oO 36 (.lookup 185 (oT 31) (oT 35) false),oO 7 (.alloc 187),oS (.store 187 (oT 7) (oT 36))]) (.seq (.seq (.reg [oL 37 187 7,oO 38 (.binOp .eql 187 (oT 37) (.const (.pointer none)) 187)]) (.cond (oT 38) (.seq (.reg [oO 39 (.build 191 #[]),oO 40 (.box 191 (oT 39)),oS (.store 187 (oT 7) (oT 40))]) (.draw [oM 41 4,oM 42 5,oL 43 3 6,oI 44 29 42 43,oL 45 3 44,oL 46 187 7,oS (.mapUpdate 185 (oT 41) (oT 45) (oT 46))] (.op 0 (.op 1 (.op 2 (.op 3 (.op 4 (.op 5 (.op 6 .done))))))))) .skip)) Ju))))) (.reg [oO 85 (.binOp .add 3 (oT 22) (oC 1) 3),oM 22 85]))))))
noncomputable def Jr:AC:=
 (.seq (.seq (.reg [oM 86 4,oO 87 (.range 185 (oT 86))]) (.block 5 (.loop (.seq (.reg [oO 88 (.next (oT 87) false),oO 89 (.extract (oT 88) 0)]) (.seq (.cond (oT 89) .skip (.exit 5)) (.block 6 (.seq (.reg [oO 90 (.entry (oT 87)),oO 91 (.extract (oT 90) 1),oA 13 91]) (.seq (.reg [oM 92 13,oO 93 (.nilCheck (oT 92)),oF 94 191 93 0,oF 95 189 94 0,oL 96 5 95,oO 97 (.binOp .eql 5 (oT 96) (oD 32) 5)]) (.cond (oT 97) (.draw [oL 98 51 3,oM 99 13,oO 100 (.nilCheck (oT 99)),oF 101 191 100 0,oF 102 189 101 1,oL 103 3 102,oL 104 51 3,oM 105 13,oO 106 (.nilCheck (oT 105)),oF 107 191 106 0,oF 108 189 107 1,oL 109 3 108,oI 110 51 104 109,oF 111 103 110 1,oL 112 9 111,⟨some 113,(.call (.mk (.value (.func 90)) #[(oT 112),(.const (.string (ByteArray.mk #[32])))] #[9,9])),none,true⟩,oI 114 51 98 103,oF 115 103 114 1,oS (.store 9 (oT 115) (oT 113))] (.op 0 (.op 1 (.op 2 (.op 3 (.op 4 (.op 5 (.op 6 (.op 7 (.op 8 (.op 9 (.op 10 (.op 11 (.op 12 (.op 13 (.op 14 (.op 15 (.op 16 (.op 17 (.op 18 .done)))))))))))))))))))) .skip))))))))) (.seq (.reg [oL 116 51 3,oA 2 116]) .ret))
noncomputable def W0a:AC:=
 (.seq (.reg [oO 1 (.box 51 (oT 0)),oO 2 (.assign (.const (.slice none 0 0)))]) (.seq (.reg [oO 14 (.buildSlice 51 0 #[]),oL 15 51 1,oO 16 (.call (.mk (.builtin .append) #[(oT 14),(oT 15)] #[51,51])),oO 3 (.alloc 51),oS (.store 51 (oT 3) (oT 16))]) (.seq (.reg [oO 17 (.makeMap 185 none),oA 4 17]) (.seq (.reg [oL 18 51 1,oO 19 (oK 150 #[(oT 18)] #[51]),oA 5 19]) (.seq (.seq (.reg [oL 20 51 1,oN 21 20 51,oO 22 (.move (oC 0))]) Js) Jr)))))
theorem Z0b:EN W0a [(ResultVar.tmp 2)] 117 125:=acE Tryz.func125 (ann:=ann_norm_squeezed)
theorem Vn {P:Program} {T:Tab} {σ:Type} {b:AC} {Q:AX→St→Prop} {s:St} (st:σ→St) (inv:σ→Prop) (μ:σ→Nat) (x0:σ) (h0:Xg s (st x0)) (hi:inv x0)
  (h:∀ x,inv x→∀ N:St→Prop,(∀ y s'',μ y < μ x→inv y→Xg s'' (st y)→N s'')→awp P T b (Y3a N Q) (st x)):awp P T (.loop b) Q s:=
 Z7 st inv μ x0 h0 hi fun x hx=>h x hx _ fun y s'' h1 h2 h3=>⟨y,h1,h2,h3⟩
def fPtr (pv:AV) (br:Nat):Prop:=pv = .optr br 2 0 0∨pv = .val (.pointer (some ⟨br,0,none⟩))
theorem tell_f {pv:AV} {br bf:Nat} (hp:fPtr pv br) {h0 h:Hp} {its:List Itm} (H:AM.Own h0 h its) (j:Nat) (hj:its[j]? = some ⟨.optr bf 1 0 0,true,1,[[pv]],some (187,1)⟩) :
  ∃ h1,(∀ tm,Xg ⟨tm,h⟩ ⟨tm,h1⟩)∧AM.Own h0 h1 (its.set j ⟨.optr bf 1 0 0,true,1,[[.optr br 2 0 0]],some (187,1)⟩):=by
 have hb:=H.p j hj
 refine ⟨_,fun tm=>(Hs.cell (i:=0) (k:=0) (x':=.optr br 2 0 0) hb hb rfl rfl ?_).retell tm,H.setP j [[.optr br 2 0 0]] hj⟩
 rcases hp with rfl | rfl
 ·exact Zf.refl _ _
 ·exact fun g w v hh hv=>⟨g,Gh.le.refl g,hh,by simpa [VR] using hv⟩
theorem bytes_ok {bt bo bi bf br bb m bs_:Nat} {xo xb:AV} {t out:List Za} {i len c0 a0:Int} {s ow:List Int} {h0 h:Hp} {x:Za} {n:Nat} (en:s.length = n) {pv:AV} (hp:fPtr pv br) (H:AM.Own h0 h ((keepI bt bo bi bf br bb xo xb t out i c0 a0 []).set 4 ⟨.optr bf 1 0 0,true,1,[[pv]],some (187,1)⟩++[⟨.osl bs_ 1 0 n,false,1,s.map Xj,some (5,0)⟩]))
  (hi:0≤i) (ht:t[i.toNat]? = some x) (hx:out[i.toNat]? = some x) (hn:s.length≤1000000000) {tm:List AV}
  (hL:Like tm ((((((((((((((List.replicate 117 none).set 1 (some (.optr bt 1 0 0))).set 3 (some (.optr bo 1 0 0))).set 4 (some (.val (.map (some m))))).set 5 (some (.isl 1 (ow.map Yd)))).set 6 (some (.optr bi 1 0 0))).set 7 (some (.optr bf 1 0 0))).set 8 (some (.optr bb 1 0 0))).set 21 (some (aint len))).set 22 (some (aint i))).set 53 (some (.osl bs_ 1 0 n))).set 54 (some (aint s.length))).set 9 (some (.fn (.func 151) [] [.optr bb 1 0 0,.optr bt 1 0 0,.optr bi 1 0 0,.optr bo 1 0 0,.optr bf 1 0 0]))).set 55 (some (aint 0)))) {Q:AX→St→Prop}
  (hQ:∀ xo' xb' c a bs out' tm' h',SqInv s c0 a0 i x out s.length bs c a out'→AM.Own h0 h' (keepI bt bo bi bf br bb xo' xb' t out' i c a bs++[⟨.osl bs_ 1 0 n,false,1,s.map Xj,some (5,0)⟩]) →
   Like tm' ((((((((((List.replicate 117 none).set 1 (some (.optr bt 1 0 0))).set 3 (some (.optr bo 1 0 0))).set 4 (some (.val (.map (some m))))).set 5 (some (.isl 1 (ow.map Yd)))).set 6 (some (.optr bi 1 0 0))).set 7 (some (.optr bf 1 0 0))).set 8 (some (.optr bb 1 0 0))).set 21 (some (aint len))).set 22 (some (aint i)))→Q .norm ⟨tm',h'⟩):awp Tryz.prog tab Jt Q ⟨tm,h⟩:=by
 subst en
 obtain ⟨hr,hR,H⟩:=tell_f hp H 4 rfl
 obtain ⟨D,rfl⟩:=hL.fill 0
 try simp -implicitDefEqProofs (disch:=omega) only [push_cast,seval,Jt]
 refine Vn (σ:=(Int×List Int×Int×Int×List Za)×AV×AV×Hp)
  (fun ⟨⟨k,bs,c,a,out'⟩,xo',xb',h'⟩=>⟨((((((((((((((List.replicate 117 AV.any).set 1 (.optr bt 1 0 0)).set 3 (.optr bo 1 0 0)).set 4 (.val (.map (some m)))).set 5 (.isl 1 (ow.map Yd))).set 6 (.optr bi 1 0 0)).set 7 (.optr bf 1 0 0)).set 8 (.optr bb 1 0 0)).set 21 (aint len)).set 22 (aint i)).set 53 (.osl bs_ 1 0 s.length)).set 54 (aint s.length)).set 9 (.fn (.func 151) [] [.optr bb 1 0 0,.optr bt 1 0 0,.optr bi 1 0 0,.optr bo 1 0 0,.optr bf 1 0 0])).set 55 (aint k)),h'⟩)
  (fun ⟨⟨k,bs,c,a,out'⟩,xo',xb',h'⟩=>(0≤k∧SqInv s c0 a0 i x out k.toNat bs c a out'∧∃ y,out'[i.toNat]? = some y)∧AM.Own h0 h' (keepI bt bo bi bf br bb xo' xb' t out' i c a bs++[⟨.osl bs_ 1 0 s.length,false,1,s.map Xj,some (5,0)⟩]))
  (fun ⟨⟨k,bs,c,a,out'⟩,xo',xb',h'⟩=>s.length - k.toNat) ⟨(0,[],c0,a0,out),xo,xb,hr⟩ ((hR _).trans (rtw)) ⟨⟨Int.le_refl _,SqInv.begin ..,⟨x,hx⟩⟩,H⟩ ?_
 rintro ⟨⟨k,bs,c,a,out'⟩,xo',xb',h'⟩ ⟨⟨hk,hI,y,hy⟩,H⟩ N hN
 dsimp only at hI H ⊢
 have HK:=H
 unfold keepI at H
 have hbl:=hI.2.2.1
 have hkl:=hI.2.2.2.1
 refine sg0 ?_
 refine fkc (fun c1=>?_) fun c1=>?_
 ·obtain ⟨v,hv⟩:∃ v,s[k.toNat]? = some v:=⟨_,List.getElem?_eq_getElem (by omega)⟩
  obtain ⟨o1,qb,qc,qd,qe⟩:=H.rowX (k:=k.toNat) (r:=Xj v) 8 rfl (gmp hv)
  try rw [List.length_map] at qe
  have qe:=eq_true qe
  have hk':=eq_true hk
  have ek:((k.toNat:Nat):Int) = k:=Int.toNat_of_nonneg hk
  have hk1:IntKind.i64.wrap (k+1) = k+1:=wrap_i64 _ (by omega)
  refine sg (ai hk' (ai (eq_true c1) (ai qb (ai qc (ai qd qe))))) ?_
  refine Zn (fun h=>Wh.ok (Q:=(· = isW v)) (by unfold Wh.w isW; split <;> simp_all) h) (fun r1 e1=>?_)
  subst e1
  refine sg0 ?_
  have put:∀ u (xo1 xb1:AV) (h1:Hp) s'',((isW v = false∧u = v)∨(isW v = true∧c≠0∧c≠32∧u = 32)) →
    AM.Own h0 h1 (keepI bt bo bi bf br bb xo1 xb1 t (if bs.length = 0 then out'.set i.toNat { y with At:=IntKind.i64.wrap (x.At+k) } else out') i u i (bs++[u])++[⟨.osl bs_ 1 0 s.length,false,1,s.map Xj,some (5,0)⟩]) →
    Xg s'' ⟨((((((((((((((List.replicate 117 AV.any).set 1 (.optr bt 1 0 0)).set 3 (.optr bo 1 0 0)).set 4 (.val (.map (some m)))).set 5 (.isl 1 (ow.map Yd))).set 6 (.optr bi 1 0 0)).set 7 (.optr bf 1 0 0)).set 8 (.optr bb 1 0 0)).set 21 (aint len)).set 22 (aint i)).set 53 (.osl bs_ 1 0 s.length)).set 54 (aint s.length)).set 9 (.fn (.func 151) [] [.optr bb 1 0 0,.optr bt 1 0 0,.optr bi 1 0 0,.optr bo 1 0 0,.optr bf 1 0 0])).set 55 (aint (k+1))),h1⟩→N s'':=by
   intro u xo1 xb1 h1 s'' hu H1 hR
   refine hN ⟨(k+1,bs++[u],u,i,if bs.length = 0 then out'.set i.toNat { y with At:=IntKind.i64.wrap (x.At+k) } else out'),xo1,xb1,h1⟩ s'' (by show s.length - (k+1).toNat < s.length - k.toNat; omega) ⟨⟨by omega,?_,?_⟩,H1⟩ hR
   ·have:=hI.put hv hx hy hu
    rw [ek] at this
    have e:(k+1).toNat = k.toNat+1:=by omega
    rw [e]; exact this
   ·split
    ·exact ⟨_,Z0a _ hy⟩
    ·exact ⟨y,hy⟩
  clear H
  rw [Zw]
  refine ⟨fun c2=>?_,fun c2=>?_⟩
  ·refine sg0 ?_
   obtain ⟨h2,HF1,hB1⟩:=HK.frame [0,1,2,3,4,5,6,7] (by decide)
   refine Z1 (keep_ok HF1 hi ht hy k v (by simp; omega)) ?_
   rintro _ h3 ⟨xo1,xb1,rfl,H'⟩
   replace HK:=hB1 _ _ rfl H'
   refine sg hk1 ?_
   exact put v xo1 xb1 h3 _ (.inl ⟨by simpa using c2,rfl⟩) HK (rtw)
  ·have H:=HK
   unfold keepI at H
   refine sg (ai (H.p 4 rfl) (H.p 5 rfl)) ?_
   have c2:isW v = true:=by simpa using c2
   refine Zn (fun h=>V2.ok (a0_:=⟨c,a⟩) (Q:=(· = (decide (c = 0) || decide (c = 32)))) (by unfold V2.w; dsimp only; split <;> simp_all) h) (fun r1 e1=>?_)
   subst e1
   refine sg0 ?_
   rw [Zw]
   refine ⟨fun c3=>?_,fun c3=>?_⟩
   ·refine sg0 ?_
    obtain ⟨h2,HF1,hB1⟩:=HK.frame [0,1,2,3,4,5,6,7] (by decide)
    refine Z1 (keep_ok HF1 hi ht hy k 32 (by simp; omega)) ?_
    rintro _ h3 ⟨xo1,xb1,rfl,H'⟩
    replace HK:=hB1 _ _ rfl H'
    refine sg hk1 ?_
    exact put 32 xo1 xb1 h3 _ (.inr ⟨c2,by rintro rfl; simp at c3,by rintro rfl; simp at c3,rfl⟩) HK (rtw)
   ·refine sg hk1 ?_
    refine hN ⟨(k+1,bs,c,a,out'),xo',xb',h'⟩ _ (by show s.length - (k+1).toNat < s.length - k.toNat; omega) ⟨⟨by omega,?_,⟨y,hy⟩⟩,HK⟩ (rtw)
    have e:(k+1).toNat = k.toNat+1:=by omega
    rw [e]
    exact hI.skip hv c2 (by simp at c3; omega)
 ·refine sg0 ?_
  have e:k.toNat = s.length:=by omega
  rw [e] at hI
  exact hQ _ _ _ _ _ _ _ _ hI HK lkt
def nodeI (bt bo bi bf br:Nat) (pv xo:AV) (t out:List Za) (i:Int) (f:Int×Int):List Itm:=
 [⟨.optr bt 1 0 0,true,1,[[.isl 4 (t.map Za.enc)]],some (51,1)⟩,⟨xo,false,4,out.map Za.enc,some (103,0)⟩,⟨.optr bo 1 0 0,true,1,[[xo]],some (51,1)⟩,
  ⟨.optr bi 1 0 0,true,1,[[aint i]],some (3,1)⟩,⟨.optr bf 1 0 0,true,1,[[pv]],some (187,1)⟩,⟨.optr br 2 0 0,true,2,[[.val (.int .u8 f.1),aint f.2]],some (191,2)⟩]
theorem text_ok {bt bo bi bf br m:Nat} {xo:AV} {t out:List Za} {i len:Int} {f:Int×Int} {ow:List Int} {h0 h:Hp} {x:Za} {pv:AV} (hp:fPtr pv br) (H:AM.Own h0 h (nodeI bt bo bi bf br pv xo t out i f))
  (hi:0≤i) (ht:t[i.toNat]? = some x) (hx:out[i.toNat]? = some x) (hn:x.Text.size≤1000000000) {tm:List AV} (hL:Like tm (((((((((List.replicate 117 none).set 1 (some (.optr bt 1 0 0))).set 3 (some (.optr bo 1 0 0))).set 4 (some (.val (.map (some m))))).set 5 (some (.isl 1 (ow.map Yd)))).set 6 (some (.optr bi 1 0 0))).set 7 (some (.optr bf 1 0 0))).set 21 (some (aint len))).set 22 (some (aint i)))) {Q:AX→St→Prop}
  (hQ:∀ xo' tm' h',AM.Own h0 h' (nodeI bt bo bi bf br (.optr br 2 0 0) xo' t (out.set i.toNat (sqN x i f).1) i (sqN x i f).2)→Like tm' (((((((List.replicate 117 none).set 4 (some (.val (.map (some m))))).set 1 (some (.optr bt 1 0 0))).set 3 (some (.optr bo 1 0 0))).set 5 (some (.isl 1 (ow.map Yd)))).set 21 (some (aint len))).set 22 (some (aint i)))→Q .norm ⟨tm',h'⟩) :
  awp Tryz.prog tab Ju Q ⟨tm,h⟩:=by
 obtain ⟨D,rfl⟩:=hL.fill 0
 unfold nodeI at H
 have hi':=eq_true hi
 try simp -implicitDefEqProofs (disch:=omega) only [push_cast,seval,Ju]
 replace H:=H.addNil 1 (some (5,0))
 refine H.newR [anil] rfl (fun b1 h1 H=>?_)
 refine sg (ai hi' (ai ht (ai (H.p 0 rfl) (H.p 3 rfl)))) ?_
 rw [Xma Zmb Ja tab_5]
 refine H.newL (E:=Xj) (Zd x.Text) rfl (Zt _) (fun b3 h4 H=>?_)
 refine sg (H.lenE 8 rfl Ja) ?_
 refine bytes_ok (Zt _) hp (H.eq (by rfl)) hi ht hx (by rw [Zt]; exact hn) lkt (fun xo' xb' c a bs out' tm' h' hI H hL=>?_)
 obtain ⟨D,rfl⟩:=hL.fill 0
 obtain ⟨e1,e2,-,-,e3,e4⟩:=hI
 rw [List.drop_length] at e1 e2
 simp only [sqT,List.append_nil] at e1 e2
 unfold keepI at H
 obtain ⟨y,hy,hxy⟩:∃ y,out'[i.toNat]? = some y∧out'.set i.toNat ⟨y.Kind,Yg bs,y.At,y.Size⟩ = out.set i.toNat (sqN x i f).1:=by
  by_cases e:bs.length = 0
  ·obtain ⟨q1,q2,q3,q4⟩:=e3 e
   rw [List.drop_length] at q4
   refine ⟨x,by rw [q3]; exact hx,?_⟩
   simp only [sqN,q3,e1,← q4,sqK]
  ·obtain ⟨q1,k0,q2,q3⟩:=e4 e
   refine ⟨_,by rw [q3]; exact Z0a _ hx,?_⟩
   simp only [sqN,q3,e1,q2,List.set_set]
 have hf:(c,a) = (sqN x i f).2:=by
  simp only [sqN,e1,e2]
  by_cases e:bs.length = 0
  ·obtain ⟨q1,q2,q3,q4⟩:=e3 e
   rw [if_pos (List.length_eq_zero_iff.1 e),q1,q2]
  ·rw [if_neg (fun q=>e (by rw [q]; rfl)),(e4 e).1]
 obtain ⟨b5,o1,rfl,qb,qc,qd,qe⟩:=H.row (k:=i.toNat) (r:=Za.enc y) 1 rfl (gmp hy)
 try rw [List.length_map] at qe
 have qe:=eq_true qe
 rw [List.length_map] at H
 refine sg (ai hi' (ai qb (ai qc (ai qd (ai qe (ai (H.p 2 rfl) (ai (H.p 3 rfl) (ai (H.p 7 rfl) (H.text 6 rfl Ja Zmb tab_5))))))))) ?_
 refine H.stL 1 ⟨y.Kind,Yg bs,y.At,y.Size⟩ rfl hy rfl rfl rfl (Nat.le_of_ble_eq_true rfl) rfl (fun h5 H=>?_)
 refine sg0 ?_
 rw [hxy] at H
 refine hQ (.osl b5 4 0 out'.length) _ _ ((H.take 6).eq ?_) lkt
 unfold nodeI
 rw [← hf]
 rfl
end Go.Proofs.YtpkhmfedaaoalaaGreatDoor.Sq
