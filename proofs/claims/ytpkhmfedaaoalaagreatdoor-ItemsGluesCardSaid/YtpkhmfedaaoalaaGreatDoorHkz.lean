/- ItemsGlues: a part of its proof (packed by a program). -/
import Derived.Test.YtpkhmfedaaoalaaGreatDoorTab
import Derived.Lib.Walk
import Derived.WalkKit
import Derived.Laws.IdiomCopy
import Derived.Shelf.RegionOpenPlain
import Derived.Below
import Derived.Test.YtpkhmfedaaoalaaGreatDoorLie
import Derived.Test.YtpkhmfedaaoalaaGreatDoorPln
import Derived.Test.YtpkhmfedaaoalaaGreatDoorWA1
set_option linter.all false
namespace Go.Proofs.YtpkhmfedaaoalaaGreatDoor.Fg
open Go Go.RowKit Go.Proofs.YtpkhmfedaaoalaaGreatDoor Go.Proofs.YtpkhmfedaaoalaaGreatDoor.AM
theorem Voa {P:Program} (w:World) (dT sT ty elem:TypeId) (b o dLen dCap:Nat) (s:ByteArray) (cs:List Value) (hcs:((s.extract 0 (Nat.min s.size dLen)).data.map fun b=>Value.int .u8 (b.toNat:Int)).toList = cs)
  (hu:P.underlying dT = some (.slice elem)) (hs:(P.info? elem).map (·.size) = some 1) (hc:∀ j,j < cs.length→(w.cell? ⟨b,o+j,none⟩).isSome = true) (hf:∀ j,j < cs.length→w.frozen? ⟨b,o+j,none⟩ = false) :
  (Builtin.copy_ #[dT,sT] ty #[.slice (some ⟨b,o,none⟩) dLen dCap,.string s]).run P w = .ok (goInt (Nat.min s.size dLen)) (w.setCells b o cs):=by
 have h1:∀ v∈cs,v.oneCell' = true:=by
  intro v hv; rw [← hcs] at hv
  simp only [Array.toList_map,List.mem_map] at hv
  obtain ⟨x,_,rfl⟩:=hv; rfl
 have hst:=run_storeCells_cells (P:=P) b o cs 0 w (by simpa using hc) (by simpa using hf) h1
 rw [← hcs] at hst
 cases hq:P.info? elem with
 | none=>simp [hq] at hs
 | some i=>
  have hi:i.size = 1:=by simpa [hq] using hs
  rw [← hcs]
  simp [Builtin.copy_,run_underlying hu,Builtin.lenOf,Builtin.firstCells,sizeOf,typeInfo,hq,hi] at hst ⊢
  simp [hst]
theorem u8Size:(Tryz.prog.info? 5).map (·.size) = some 1:=by kernel_rfl
theorem und57:Tryz.prog.underlying 57 = some (.slice 5):=by kernel_rfl
theorem bytes_cut (s:ByteArray) (n:Nat):((s.extract 0 n).data.map fun b=>Value.int .u8 (b.toNat:Int)).toList = ((Zd s).take n).map fun b=>Value.int .u8 b:=by
 unfold Zd
 rw [ByteArray.data_extract,Array.toList_map,Array.toList_extract,List.extract_eq_take_drop,← List.map_take,List.map_map]
 rfl
set_option maxHeartbeats 1000000 in
set_option maxRecDepth 100000 in
theorem key_calls (s:ByteArray) (w:World) :
  Calls Tryz.prog 163 #[.string s] w fun e w'=>e = .returned (.agg #[.int .i64 s.size,.int .u8 (V2a s 0),.int .u8 (V2a s 1)])∧Below w.heap.size w w':=by
 have mixed:=YtpkhmfedaaoalaaGreatDoor.mixed
 have hl:=Zt s
 go_enter Tryz.func163,Tryz.ntmps163
 go_wp2
 match hs:Zd s with
 | []=>
  have h0:s.size = 0:=by rw [hs] at hl; simpa using hl.symm
  rw [Voa _ 57 9 3 5 _ _ 2 2 s [] (by rw [bytes_cut,hs]; simp) und57 u8Size (fun j h=>by simp at h) (fun j h=>by simp at h)]
  simp only [Result.andThen]
  rw [Oper.upon_value]
  simp only [World.setCells]
  go_wp2
  refine bodyPost_ret (v:=.agg #[.int .i64 0,.int .u8 0,.int .u8 0]) ?_ rfl ⟨?_,?_⟩
  ·simp [results,Tryz.f163,go_sem]
  ·rw [h0]; simp [V2a,hs]
  ·exact ((Below.refl _ _).alloc (Nat.le_refl _) _).alloc (by simp) _
 | [x]=>
  have h0:Nat.min s.size 2 = 1:=by rw [hs] at hl; simp at hl; show min s.size 2 = 1; omega
  rw [Voa _ 57 9 3 5 _ _ 2 2 s [.int .u8 x] (by rw [bytes_cut,h0,hs]; rfl) und57 u8Size (fun j h=>by
    have:j = 0:=by simpa using h
    subst this; simp [go_sem]) (fun j h=>by
    have:j = 0:=by simpa using h
    subst this; simp [go_sem])]
  simp only [Result.andThen]
  rw [Oper.upon_value]
  simp only [World.setCells]
  go_wp2
  refine bodyPost_ret (v:=.agg #[.int .i64 s.size,.int .u8 (V2a s 0),.int .u8 (V2a s 1)]) ?_ rfl ⟨rfl,?_⟩
  ·simp [results,Tryz.f163,go_sem,V2a,hs]
  ·exact ((Below.refl _ _).alloc (Nat.le_refl _) _).alloc (by simp) _
 | x :: y :: r=>
  have h0:Nat.min s.size 2 = 2:=by rw [hs] at hl; simp at hl; show min s.size 2 = 2; omega
  rw [Voa _ 57 9 3 5 _ _ 2 2 s [.int .u8 x,.int .u8 y] (by rw [bytes_cut,h0,hs]; rfl) und57 u8Size (fun j h=>by
    have:j = 0∨j = 1:=by simp at h; omega
    rcases this with rfl | rfl <;> simp [go_sem]) (fun j h=>by
    have:j = 0∨j = 1:=by simp at h; omega
    rcases this with rfl | rfl <;> simp [go_sem])]
  simp only [Result.andThen]
  rw [Oper.upon_value]
  simp only [World.setCells]
  go_wp2
  refine bodyPost_ret (v:=.agg #[.int .i64 s.size,.int .u8 (V2a s 0),.int .u8 (V2a s 1)]) ?_ rfl ⟨rfl,?_⟩
  ·simp [results,Tryz.f163,go_sem,V2a,hs]
  ·exact ((Below.refl _ _).alloc (Nat.le_refl _) _).alloc (by simp) _
def Via.enc (x:Via):AV:=.agg [aint x.size,.val (.int .u8 x.a),.val (.int .u8 x.b)]
theorem key_ok {s:ByteArray} {Q:Via→Prop} (hm:Q (keyP s)) (h0:Hp):Zo Tryz.prog 163 [astr s] h0 (Back h0 Via.enc Q):=by
 refine Z3b (enc:=Via.enc) (keyP s) hm ⟨_,Tryz.func163,by kernel_rfl,by kernel_rfl⟩ (fun g h w vs hv hh=>?_) h0
 obtain rfl:vs = #[.string s]:=by
  match e:vs.toList,hv with
  | [u],hv=>
   simp only [VRs,astr,VR,and_true] at hv
   subst hv
   apply Array.ext'; rw [e]
  | [],hv=>simp [VRs] at hv
  | _ :: _ :: _,hv=>simp [VRs] at hv
 refine (key_calls s w).mono ?_
 rintro e w' ⟨rfl,hb⟩
 refine ⟨_,rfl,?_,hb⟩
 simp [Via.enc,keyP,VR,Zp,aint,Value.oneCell']
theorem Z8a:KeyV ⟨3,16,[(Value.int IntKind.i64 0),(Value.int IntKind.u8 0),(Value.int IntKind.u8 0)],.struct [(0,3),(1,208)],(some [(0,.int .i64),(1,TK.int .u8),(2,TK.int .u8)])⟩ (fun x:Via=>Value.agg #[.int .i64 x.size,.int .u8 x.a,.int .u8 x.b]) where
 key:=fun x=>rfl
 same:=fun x y=>by
  obtain ⟨x0,x1,x2⟩:=x; obtain ⟨y0,y1,y2⟩:=y
  by_cases h0:x0 = y0 <;> by_cases h1:x1 = y1 <;> by_cases h2:x2 = y2 <;> simp [W4a,aeqs,Instr.sameBits,sameBits_int,one_int,h0,h1,h2]
set_option maxHeartbeats 4000000
set_option maxRecDepth 100000
abbrev n_strings_Trim:Nat:=173
def ann_strings_Trim:Nat→Ann
 | 4=>{ pure:=[3,6],plan:=(.op 0 (.op 1 (.op 2 (.op 3 (.op 4 (.op 5 (.op 6 (.op 7 .done)))))))),ghost:=false,post:=false }
 | _=>{}
noncomputable def Kla:AC:=
 (.seq (.reg [oO 4 (.assign (.const (.string (ByteArray.mk #[]))))]) (.seq (.seq (.reg [oM 7 0,oO 8 (.binOp .eql 9 (oT 7) (.const (.string (ByteArray.mk #[]))) 9),oM 9 8,oG 10 9 false (.move (oT 1)),oG 11 9 false (.binOp .eql 9 (oT 10) (.const (.string (ByteArray.mk #[]))) 9),oO 12 (.pick (oT 9) (.const (.bool true)) (oT 11))]) (.cond (oT 12) (.seq (.reg [oM 13 0,oA 4 13]) .ret) .skip)) (.seq (.seq (.reg [oM 14 1,oN 15 14 9,oO 16 (.binOp .eql 3 (oT 15) (oC 1) 3),oM 17 16,oG 18 17 true (.move (oT 1)),oG 19 17 true (.index 9 (oT 18) (oC 0)),oG 20 17 true (.binOp .lss 5 (oT 19) (oD 128) 5),oO 21 (.pick (oT 17) (oT 20) (.const (.bool false)))]) (.cond (oT 21) (.seq (.draw [oM 22 0,oM 23 1,oO 24 (.index 9 (oT 23) (oC 0)),⟨some 25,(oK 175 #[(oT 22),(oT 24)] #[9,5]),none,true⟩,oM 26 1,oO 27 (.index 9 (oT 26) (oC 0)),⟨some 28,(oK 174 #[(oT 25),(oT 27)] #[9,5]),none,true⟩,oA 4 28] (.op 0 (.op 1 (.op 2 (.op 3 (.op 4 (.op 5 (.op 6 (.op 7 .done))))))))) .ret) .skip)) (.seq (.seq (.reg [oM 30 1,oO 31 (oK 176 #[(oT 30)] #[9]),oM 29 31,oO 32 (.extract (oT 29) 0),oO 33 (.extract (oT 29) 1),oO 5 (.alloc 224),oS (.store 224 (oT 5) (oT 32)),oA 6 33]) (.seq (.reg [oM 34 6]) (.cond (oT 34) (.seq (.reg [oM 35 0,oO 36 (oK 178 #[(oT 35),(oT 5)] #[9,228]),oO 37 (oK 177 #[(oT 36),(oT 5)] #[9,228]),oA 4 37]) .ret) .skip))) (.seq (.reg [oM 38 0,oM 39 1,oO 40 (oK 180 #[(oT 38),(oT 39)] #[9,9]),oM 41 1,oO 42 (oK 179 #[(oT 40),(oT 41)] #[9,9]),oA 4 42]) .ret)))))
theorem Y9b:EN Kla [(ResultVar.tmp 4)] 43 173:=acE Tryz.func173 (ann:=ann_strings_Trim)
def Trim2.w (s cut:ByteArray) (Q:ByteArray→Prop):Prop:=(s = ByteArray.mk #[]→Q s)∧2≤cut.size∧∃ set:List Bool,set.length = 256∧Y8.w cut (fun r=>r = (set,true)) ∧
 (s≠ByteArray.mk #[]→Ys.w s set (fun r c=>Yu.w r c (fun r2 c2=>Q r2)))
theorem Trim2_ok {s cut:ByteArray} {Q:ByteArray→Prop} (hm:Trim2.w s cut Q) (h0:Hp):Zo Tryz.prog n_strings_Trim [astr s,astr cut] h0 (Back h0 (fun r=>astr r) Q):=by
 refine Y9b ?_
 obtain ⟨h1,h2,set,hset,hmk,hm⟩:=hm
 have H:=AM.Own.nil h0
 try simp -implicitDefEqProofs (disch:=omega) only [push_cast,seval,Kla]
 refine gfk' (fun c1=>?_) fun c1=>?_
 ·refine sg (eq_true c1) ?_
  exact Zb (.inl rfl) s _ rfl (Zf.refl _ _) H.sub (h1 c1)
 have c2:¬ cut = ByteArray.mk #[]:=by rintro rfl; exact absurd h2 (by decide)
 have c3:¬ (cut.size:Int) = 1:=by omega
 refine sg (ai (eq_false c1) (ai (eq_false c2) (eq_false c3))) ?_
 refine Zn (fun h=>Y8.ok hmk h) (fun r1 e1=>?_)
 subst e1
 refine sg (ai (eq_false c1) (ai (eq_false c2) (eq_false c3))) ?_
 refine H.newR ((List.replicate 256 false:List Bool).map (fun v=>AV.val (Value.bool v))) rfl (fun b1 h1 H=>?_)
 refine sg (H.p 0 rfl) ?_
 refine H.stP 0 (set.map (fun v=>AV.val (Value.bool v))) rfl rfl rfl (by exact (Yoa (f:=(fun v=>AV.val (Value.bool v))) hset)) (by rw [(Yoa (f:=(fun v=>AV.val (Value.bool v))) (List.length_replicate (n:=256) (a:=false)))]; exact Nat.le_refl _) (by exact arrAll (Yoa (f:=(fun v=>AV.val (Value.bool v))) (List.length_replicate (n:=256) (a:=false)))) (fun h3 H=>?_)
 refine sg0 ?_
 obtain ⟨h4,HF1,hB1⟩:=H.frame [0] (by decide)
 refine Z1 (Ys.ok (hm c1) HF1) ?_
 rintro _ h5 ⟨r2,v1,rfl,H',hm⟩
 replace H:=hB1 _ _ rfl H'
 refine sg0 ?_
 obtain ⟨h6,HF2,hB2⟩:=H.frame [0] (by decide)
 refine Z1 (Yu.ok hm HF2) ?_
 rintro _ h7 ⟨r3,v2,rfl,H',hm⟩
 replace H:=hB2 _ _ rfl H'
 refine sg0 ?_
 exact Zb (.inl rfl) r3 _ rfl (Zf.refl _ _) H.sub hm
abbrev n_hyph_right:Nat:=170
noncomputable def X2b:AC:=
 (.seq (.reg [oO 1 (.box 47 (oT 0)),oO 2 (.assign (.const (.bool false)))]) (.seq (.reg [oF 6 47 1 0,oL 7 9 6,oO 8 (.call (.mk (.value (.func 91)) #[(oT 7),(.const (.string (ByteArray.mk #[46])))] #[9,9])),oO 9 (.call (.mk (.value (.func 90)) #[(oT 8),(.const (.string (ByteArray.mk #[46])))] #[9,9])),oA 3 9]) (.seq (.reg [oM 10 3,oO 11 (.call (.mk (.value (.func 173)) #[(oT 10),(.const (.string (ByteArray.mk #[97,98,99,100,101,102,103,104,105,106,107,108,109,110,111,112,113,114,115,116,117,118,119,120,121,122])))] #[9,9])),oO 12 (.binOp .eql 9 (oT 11) (.const (.string (ByteArray.mk #[]))) 9),oA 4 12]) (.seq (.reg [oF 13 47 1 1,oL 14 9 13,oO 15 (.call (.mk (.value (.func 173)) #[(oT 14),(.const (.string (ByteArray.mk #[48,49,50,51,52,53,54,55,56,57])))] #[9,9])),oO 16 (.binOp .eql 9 (oT 15) (.const (.string (ByteArray.mk #[]))) 9),oA 5 16]) (.seq (.reg [oM 17 3,oO 18 (.binOp .neq 9 (oT 17) (.const (.string (ByteArray.mk #[]))) 9),oM 19 18,oG 20 19 true (.move (oT 4)),oO 21 (.pick (oT 19) (oT 20) (.const (.bool false))),oM 22 21,oG 23 22 true (.move (oT 5)),oO 24 (.pick (oT 22) (oT 23) (.const (.bool false))),oM 25 24,oG 26 25 true (.fieldAddr 47 (oT 1) 0),oG 27 25 true (.load 9 (oT 26)),oG 28 25 true (.call (.mk (.builtin .len) #[(oT 27)] #[9])),oG 29 25 true (.binOp .leq 3 (oT 28) (oC 16) 3),oO 30 (.pick (oT 25) (oT 29) (.const (.bool false))),oM 31 30,oG 32 31 true (.fieldAddr 47 (oT 1) 1),oG 33 31 true (.load 9 (oT 32)),oG 34 31 true (.call (.mk (.builtin .len) #[(oT 33)] #[9])),oG 35 31 true (.fieldAddr 47 (oT 1) 0),oG 36 31 true (.load 9 (oT 35)),oG 37 31 true (.call (.mk (.builtin .len) #[(oT 36)] #[9])),oG 38 31 true (.binOp .add 3 (oT 37) (oC 1) 3),oG 39 31 true (.binOp .eql 3 (oT 34) (oT 38) 3),oO 40 (.pick (oT 31) (oT 39) (.const (.bool false))),oA 2 40]) .ret)))))
theorem enter_hyph_right:EN X2b [(ResultVar.tmp 2)] 41 170:=acE Tryz.func170 (ann:=Yy)
def lettersB:ByteArray:=ByteArray.mk #[97,98,99,100,101,102,103,104,105,106,107,108,109,110,111,112,113,114,115,116,117,118,119,120,121,122]
def digitsB:ByteArray:=ByteArray.mk #[48,49,50,51,52,53,54,55,56,57]
def right.w (p:Zj) (Q:Bool→Prop):Prop:=
 Yp.w p.Letters (ByteArray.mk #[46]) (fun r1=>Z8.w r1 (ByteArray.mk #[46]) (fun r2=>Trim2.w r2 lettersB (fun r3=>Trim2.w p.Figures digitsB (fun r4=>
  I64 ((p.Letters.size:Int)+1)∧Q (decide (r2≠ByteArray.mk #[]) && decide (r3 = ByteArray.mk #[]) && decide (r4 = ByteArray.mk #[]) && decide ((p.Letters.size:Int)≤16) && decide ((p.Figures.size:Int) = (p.Letters.size:Int)+1))))))
theorem right_ok {p:Zj} {Q:Bool→Prop} (hm:right.w p Q) (h0:Hp):Zo Tryz.prog n_hyph_right [.agg (Zj.enc p)] h0 (Back h0 (fun r=>Zk r) Q):=by
 refine enter_hyph_right ?_
 unfold right.w at hm
 have H:=AM.Own.nil h0
 try simp -implicitDefEqProofs (disch:=omega) only [push_cast,seval,X2b]
 refine H.newR (Zj.enc p) rfl (fun b1 h1 H=>?_)
 refine sg (H.p 0 rfl) ?_
 refine Zn (fun h=>Yp.ok hm h) (fun r1 hm=>?_)
 refine sg (H.p 0 rfl) ?_
 refine Zn (fun h=>Z8.ok hm h) (fun r2 hm=>?_)
 refine sg (H.p 0 rfl) ?_
 refine Zn (fun h=>Trim2_ok hm h) (fun r3 hm=>?_)
 refine sg (H.p 0 rfl) ?_
 refine Zn (fun h=>Trim2_ok hm h) (fun r4 hm=>?_)
 obtain ⟨w1,hm⟩:=hm
 refine sg (ai (H.p 0 rfl) (wrap_i64 _ w1)) ?_
 by_cases c1:r2 = ByteArray.mk #[]
 ·try simp -implicitDefEqProofs (disch:=omega) only [push_cast,seval,eq_true c1,not_true_eq_false,decide_false]
  exact Zb (.inl rfl) false _ rfl (Zf.refl _ _) H.sub (by simpa [c1] using hm)
 by_cases c2:r3 = ByteArray.mk #[]
 ·by_cases c3:r4 = ByteArray.mk #[]
  ·by_cases c4:(p.Letters.size:Int)≤16
   ·try simp -implicitDefEqProofs (disch:=omega) only [push_cast,seval,eq_false c1,eq_true c2,eq_true c3,eq_true c4,not_false_eq_true,decide_true,H.p 0 rfl,wrap_i64 _ w1]
    exact Zb (.inl rfl) (decide ((p.Figures.size:Int) = (p.Letters.size:Int)+1)) _ rfl (Zf.refl _ _) H.sub (by simpa [c1,c2,c3,c4] using hm)
   ·try simp -implicitDefEqProofs (disch:=omega) only [push_cast,seval,eq_false c1,eq_true c2,eq_true c3,eq_false c4,not_false_eq_true,decide_true,decide_false,H.p 0 rfl]
    exact Zb (.inl rfl) false _ rfl (Zf.refl _ _) H.sub (by simpa [c1,c2,c3,c4] using hm)
  ·try simp -implicitDefEqProofs (disch:=omega) only [push_cast,seval,eq_false c1,eq_true c2,eq_false c3,not_false_eq_true,decide_true,decide_false]
   exact Zb (.inl rfl) false _ rfl (Zf.refl _ _) H.sub (by simpa [c1,c2,c3] using hm)
 ·try simp -implicitDefEqProofs (disch:=omega) only [push_cast,seval,eq_false c1,eq_false c2,not_false_eq_true,decide_true,decide_false]
  exact Zb (.inl rfl) false _ rfl (Zf.refl _ _) H.sub (by simpa [c1,c2] using hm)
end Go.Proofs.YtpkhmfedaaoalaaGreatDoor.Fg
namespace Go.Proofs.YtpkhmfedaaoalaaGreatDoor.Fg
open Go Go.Proofs.YtpkhmfedaaoalaaGreatDoor Go.Proofs.YtpkhmfedaaoalaaGreatDoor.AM
set_option maxHeartbeats 40000000
set_option maxRecDepth 100000
theorem maxL_length:∀ (g:List Int) (f:List Int) (k:Nat),(maxL f k g).length = f.length
 | [],f,k=>rfl
 | c :: cs,f,k=>by rw [maxL,maxL_length cs]; simp
theorem Vn {P:Program} {T:Tab} {σ:Type} {b:AC} {Q:AX→St→Prop} {s:St} (st:σ→St) (inv:σ→Prop) (μ:σ→Nat) (x0:σ) (h0:Xg s (st x0)) (hi:inv x0)
  (h:∀ x,inv x→∀ N:St→Prop,(∀ y s'',μ y < μ x→inv y→Xg s'' (st y)→N s'')→awp P T b (Y3a N Q) (st x)):awp P T (.loop b) Q s:=
 Z7 st inv μ x0 h0 hi fun x hx=>h x hx _ fun y s'' h1 h2 h3=>⟨y,h1,h2,h3⟩
abbrev n_hyph_Figures_1:Nat:=137
def Xrb:Nat→Ann
 | 4=>{ pure:=[],plan:=(.op 0 (.op 1 (.op 2 (.op 3 (.op 4 (.op 5 (.op 6 (.op 7 (.op 8 (.op 9 (.op 10 (.op 11 (.op 12 (.op 13 (.op 14 (.op 15 (.op 16 .done))))))))))))))))),ghost:=false,post:=false }
 | _=>{}
noncomputable def Xwa:AC:=
 (.seq (.reg [oO 4 (.box 47 (oT 1))]) (.seq (.reg [oF 6 47 4 1,oL 7 9 6,oN 8 7 9,oO 9 (.move (oC 0))]) (.block 0 (.loop (.seq (.reg [oO 10 (.binOp .lss 3 (oT 9) (oT 8) 3)]) (.seq (.cond (oT 10) .skip (.exit 0)) (.seq (.block 1 (.seq (.reg [oM 11 9,oA 5 11]) (.draw [oL 12 57 2,oM 13 0,oM 14 5,oO 15 (.binOp .add 3 (oT 13) (oT 14) 3),oL 16 57 2,oM 17 0,oM 18 5,oO 19 (.binOp .add 3 (oT 17) (oT 18) 3),oI 20 57 16 19,oL 21 5 20,oF 22 47 4 1,oL 23 9 22,oM 24 5,oO 25 (.index 9 (oT 23) (oT 24)),oO 26 (.call (.mk (.builtin .max) #[(oT 21),(oT 25)] #[5,5])),oI 27 57 12 15,oS (.store 5 (oT 27) (oT 26))] (.op 0 (.op 1 (.op 2 (.op 3 (.op 4 (.op 5 (.op 6 (.op 7 (.op 8 (.op 9 (.op 10 (.op 11 (.op 12 (.op 13 (.op 14 (.op 15 (.op 16 .done)))))))))))))))))))) (.reg [oO 28 (.binOp .add 3 (oT 9) (oC 1) 3),oM 9 28]))))))))
theorem Joa:EN Xwa [] 29 137:=acE Tryz.func137 (ann:=Xrb)
def figI (bf:Nat) (xf:AV) (f:List Int):List Itm:=[⟨xf,false,1,f.map Xj,some (5,0)⟩,⟨.optr bf 1 0 0,true,1,[[xf]],some (57,1)⟩]
theorem tell_ok {h0 h:Hp} {bf:Nat} {xf:AV} {f:List Int} (H:AM.Own h0 h (figI bf xf f)) (at_:Int) (p:Zj) (hat:0≤at_) (hfit:at_.toNat+p.Figures.size≤f.length) (hb:f.length≤1000000000) :
  Zo Tryz.prog n_hyph_Figures_1 [aint at_,.agg (Zj.enc p),.optr bf 1 0 0] h fun e h'=>∃ xf',e = .ret (.tup [])∧AM.Own h0 h' (figI bf xf' (maxL f at_.toNat (Zd p.Figures))):=by
 refine Joa ?_
 unfold figI at H
 have hl:=Zt p.Figures
 try simp -implicitDefEqProofs (disch:=omega) only [push_cast,seval,Xwa]
 refine H.newR (Zj.enc p) rfl (fun b1 h1 H=>?_)
 refine sg (H.p 2 rfl) ?_
 refine Vn (σ:=(Int×List Int)×AV×Hp)
  (fun ⟨⟨i,f'⟩,xf',h'⟩=>⟨((((((List.replicate 29 AV.any).set 0 (aint at_)).set 2 (.optr bf 1 0 0)).set 4 (.optr b1 2 0 0)).set 8 (aint p.Figures.size)).set 9 (aint i)),h'⟩)
  (fun ⟨⟨i,f'⟩,xf',h'⟩=>(0≤i∧i.toNat≤p.Figures.size∧f'.length = f.length∧maxL f at_.toNat (Zd p.Figures) = maxL f' (at_.toNat+i.toNat) ((Zd p.Figures).drop i.toNat)) ∧
   AM.Own h0 h' [⟨xf',false,1,f'.map Xj,some (5,0)⟩,⟨.optr bf 1 0 0,true,1,[[xf']],some (57,1)⟩,⟨.optr b1 2 0 0,true,2,[Zj.enc p],some (47,2)⟩])
  (fun ⟨⟨i,f'⟩,xf',h'⟩=>p.Figures.size - i.toNat) ⟨(0,f),xf,h1⟩ (rtw) ⟨⟨Int.le_refl _,Nat.zero_le _,rfl,rfl⟩,H⟩ ?_
 clear H
 rintro ⟨⟨i,f'⟩,xf',h'⟩ ⟨⟨hi,hil,hfl,hI⟩,H⟩ N hN
 dsimp only at hI H ⊢
 refine sg0 ?_
 refine fkc (fun c1=>?_) fun c1=>?_
 ·obtain ⟨v,hv⟩:∃ v,p.Figures[i.toNat]? = some v:=⟨p.Figures[i.toNat]'(by omega),by simp⟩
  obtain ⟨u,hu⟩:∃ u,f'[(at_+i).toNat]? = some u:=⟨_,List.getElem?_eq_getElem (by omega)⟩
  obtain ⟨b2,o1,rfl,qb,qc,qd,qe⟩:=H.row (k:=(at_+i).toNat) (r:=Xj u) 0 rfl (gmp hu)
  try rw [List.length_map] at qe
  have qe:=eq_true qe
  rw [List.length_map] at H
  have hz:=eq_true hi
  have hz2:=eq_true (show 0≤at_+i by omega)
  have w1:IntKind.i64.wrap (at_+i) = at_+i:=wrap_i64 _ (by omega)
  have w2:IntKind.i64.wrap (i+1) = i+1:=wrap_i64 _ (by omega)
  refine sg (ai (eq_true c1) (ai hv (ai hu (ai hz (ai hz2 (ai w1 (ai w2 (ai qb (ai qc (ai qd (ai qe (ai (H.p 1 rfl) (H.p 2 rfl))))))))))))) ?_
  refine H.stL 0 (if (v.toNat:Int) > u then (v.toNat:Int) else u) rfl hu rfl rfl rfl (Nat.le_of_ble_eq_true rfl) rfl (fun h4 H=>?_)
  refine sg w2 ?_
  have ei:(i+1).toNat = i.toNat+1:=by omega
  have ea:(at_+i).toNat = at_.toNat+i.toNat:=by omega
  have hv2:(Zd p.Figures)[i.toNat]? = some ((v.toNat:Nat):Int):=by
   have hlt:i.toNat < p.Figures.size:=by omega
   have:v = p.Figures[i.toNat]'hlt:=by simpa [hlt] using hv.symm
   subst this
   simp [Zd,ByteArray.getElem_eq_getElem_data,hlt]
  refine hN ⟨(i+1,f'.set (at_+i).toNat (if (v.toNat:Int) > u then (v.toNat:Int) else u)),.osl b2 1 0 f'.length,h4⟩ _ (by show p.Figures.size - (i+1).toNat < p.Figures.size - i.toNat; omega) ⟨⟨by omega,by omega,by simpa using hfl,?_⟩,H.take 3⟩ (rtw)
  have hlt2:=(List.getElem?_eq_some_iff.1 hv2).1
  rw [hI,ei,ea,List.drop_eq_getElem_cons hlt2,maxL,(List.getElem?_eq_some_iff.1 hv2).2,List.getD_eq_getElem?_getD,← ea,hu,show at_.toNat+(i.toNat+1) = (at_+i).toNat+1 by omega]
  rfl
 ·refine sg0 ?_
  refine Yx (.inr rfl) rfl ⟨xf',rfl,?_⟩
  rw [hI,List.drop_eq_nil_of_le (by omega)]
  exact H.take 2
end Go.Proofs.YtpkhmfedaaoalaaGreatDoor.Fg
