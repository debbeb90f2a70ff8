/- ItemsGlues: a part of its proof (packed by a program). -/
import Derived.Test.YtpkhmfedaaoalaaGreatDoorHkm
import Derived.Test.YtpkhmfedaaoalaaGreatDoorItx
import Derived.Test.YtpkhmfedaaoalaaGreatDoorSqz
set_option linter.all false
namespace Go.Proofs.YtpkhmfedaaoalaaGreatDoor.Fg
open Go Go.Proofs.YtpkhmfedaaoalaaGreatDoor Go.Proofs.YtpkhmfedaaoalaaGreatDoor.AM
set_option maxHeartbeats 40000000
set_option maxRecDepth 100000
theorem byteAt (s:ByteArray) {n:Nat} (h:n < s.size):∃ v:UInt8,s[n]? = some v∧(v.toNat:Int) = (Zd s)[n]'(by rw [Zt]; exact h):=by
 have:=bget s h
 rw [Int.toNat_natCast] at this
 exact ⟨_,this,by simp [Zd,size_list]⟩
theorem word_w (w:ByteArray) (hs:w.size≤1000000):Xba.w w (· = wordD w):=by
 unfold Xba.w
 have hl:=Zt w
 refine wfor (fun s=>s) (fun n=>(n:Int)) w.size (fun n=>((Zd w).take n).all letD = true) (fun _ _=>rfl) rfl rfl ?_ ?_
 ·intro n hn hp K hK
  rw [if_pos (by omega)]
  have hn':n < (Zd w).length:=by omega
  refine ⟨by omega,_,bget w hn,Letter_w (ubyte _) ?_⟩
  have e:(((w.data.toList[n]'hn).toNat:Nat):Int) = (Zd w)[n]:=by simp [Zd,size_list]
  rw [e]
  by_cases c:letD (Zd w)[n] = true
  ·have:isL (Zd w)[n] = true:=c
   rw [this,if_neg (by simp)]
   refine ⟨V8 (by omega) (by omega),hK ?_⟩
   rw [List.take_add_one,List.getElem?_eq_getElem hn',Option.toList_some,List.all_append,hp]
   simp [c]
  ·have c':isL (Zd w)[n] = false:=by simpa [letD,isL] using c
   rw [c',if_pos (by simp)]
   show false = _
   have:(Zd w).all letD = false:=by
    rw [Bool.eq_false_iff]
    intro h
    exact c (List.all_eq_true.1 h _ (List.getElem_mem hn'))
   simp [wordD,this]
 ·intro hp K
  rw [if_neg (by omega)]
  rw [List.take_of_length_le (by omega)] at hp
  simp [wordD,hp]
theorem Lower_w {c:Int} (hc:Byte c) {Q:Int→Prop} (h:Q (lowD c)):K9.w c Q:=by
 unfold K9.w
 refine Class_w hc ?_
 unfold lowD at h
 split
 ·rename_i e
  rw [cls2 hc] at e
  rw [if_pos e] at h
  rw [(cls_facts hc).2.2.1 e]; exact h
 ·rename_i e
  rw [cls2 hc] at e
  rw [if_neg e] at h; exact h
theorem Low_w (s:ByteArray) (hs:s.size≤big) {Q:ByteArray→Prop} (h:Q (Yg ((Zd s).map lowD))):Xla.w s Q:=by
 unfold big at hs
 unfold Xla.w
 have hl:=Zt s
 refine wfor (fun s=>s.2) (fun n=>(((Zd s).take n).map lowD++(Zd s).drop n,(n:Int))) s.size (fun _=>True) (fun _ _=>rfl) (by simp) trivial ?_ ?_
 ·intro n hn _ K hK
  dsimp only
  rw [if_pos (by omega)]
  have hn':n < (Zd s).length:=by omega
  have hv:(((Zd s).take n).map lowD++(Zd s).drop n)[((n:Int)).toNat]? = some (Zd s)[n]:=by
   rw [Int.toNat_natCast,List.getElem?_append,if_neg (by simp; omega)]
   simp [Nat.min_eq_left (Nat.le_of_lt hn'),hn']
  refine ⟨by omega,_,hv,Lower_w (strInts_byte (List.getElem_mem hn')) ⟨V8 (by omega) (by omega),?_⟩⟩
  have:=hK trivial
  have e:(((Zd s).take n).map lowD++(Zd s).drop n).set ((n:Int)).toNat (lowD (Zd s)[n]) = ((Zd s).take (n+1)).map lowD++(Zd s).drop (n+1):=by
   rw [Int.toNat_natCast,List.set_append,if_neg (by simp; omega)]
   simp only [List.length_map,List.length_take,Nat.min_eq_left (Nat.le_of_lt hn'),Nat.sub_self]
   rw [List.drop_eq_getElem_cons hn',List.set_cons_zero,List.take_add_one,List.getElem?_eq_getElem hn']
   simp only [Option.toList_some,List.map_append,List.map_cons,List.map_nil,List.append_assoc,List.cons_append,List.nil_append]
  rw [e]; simpa using this
 ·intro _ K
  dsimp only
  rw [if_neg (by omega)]
  have e1:(Zd s).take s.size = Zd s:=List.take_of_length_le (by omega)
  have e2:(Zd s).drop s.size = []:=List.drop_of_length_le (by omega)
  rw [e1,e2,List.append_nil]; exact h
def setD (cut:ByteArray):List Bool:=(List.range 256).map fun k:Nat=>decide ((k:Int)∈Zd cut)
theorem setD_len (cut:ByteArray):(setD cut).length = 256:=by simp [setD]
theorem setD_get (cut:ByteArray) {c:Int} (hc:Byte c):(setD cut)[c.toNat]? = some (decide (c∈Zd cut)):=by
 unfold setD
 rw [List.getElem?_map,List.getElem?_range (by omega)]
 simp only [Option.map_some,Option.some.injEq]
 rw [show ((c.toNat:Nat):Int) = c by omega]
theorem set_w (cut:ByteArray) (h128:∀ c∈Zd cut,c < 128) (hs:cut.size≤1000):Y8.w cut (fun r=>r = (setD cut,true)):=by
 unfold Y8.w
 have hl:=Zt cut
 refine wfor (fun s=>s.2) (fun n=>((List.range 256).map (fun k:Nat=>decide ((k:Int)∈(Zd cut).take n)),(n:Int))) cut.size (fun _=>True) (fun _ _=>rfl) ?_ trivial ?_ ?_
 ·simp only [List.take_zero,List.not_mem_nil,decide_false]
  rw [List.map_const',List.length_range]
  rfl
 ·intro n hn _ K hK
  dsimp only
  rw [if_pos (by omega)]
  have hn':n < (Zd cut).length:=by omega
  obtain ⟨v,hv,e⟩:=byteAt cut hn
  have h8:=h128 _ (List.getElem_mem hn')
  have hb:=v.toNat_lt
  refine ⟨by omega,v,by rw [Int.toNat_natCast]; exact hv,?_⟩
  rw [if_neg (by omega)]
  refine ⟨by omega,by simp; omega,V8 (by omega) (by omega),?_⟩
  have:=hK trivial
  have e2:((List.range 256).map (fun k:Nat=>decide ((k:Int)∈(Zd cut).take n))).set v.toNat true = (List.range 256).map (fun k:Nat=>decide ((k:Int)∈(Zd cut).take (n+1))):=by
   apply List.ext_getElem?
   intro k
   rw [List.getElem?_set,List.take_add_one,List.getElem?_eq_getElem hn',Option.toList_some]
   simp only [List.getElem?_map,List.length_map,List.length_range]
   by_cases hk:k < 256
   ·rw [List.getElem?_range hk]
    by_cases ek:v.toNat = k
    ·rw [if_pos ek,if_pos (by omega)]
     simp only [Option.map_some,List.mem_append,List.mem_singleton,Option.some.injEq]
     rw [eq_comm,decide_eq_true_iff]
     right; rw [← e,ek]
    ·rw [if_neg ek]
     simp only [Option.map_some,List.mem_append,List.mem_singleton,Option.some.injEq]
     congr 1
     rw [← e]
     simp only [eq_iff_iff]
     constructor
     ·intro h; exact .inl h
     ·rintro (h | h)
      ·exact h
      ·exact absurd (by omega) ek
   ·rw [if_neg (by omega)]
    simp [hk]
  rw [e2]; simpa using this
 ·intro _ K
  dsimp only
  rw [if_neg (by omega)]
  refine ⟨by simp,by simp,by simp,by simp,?_⟩
  rw [List.take_of_length_le (by omega)]; rfl
def AllIn (cut s:ByteArray):Prop:=∀ c∈Zd s,c∈Zd cut
theorem empty_iff (s:ByteArray):s = ByteArray.mk #[]↔Zd s = []:=⟨fun h=>by rw [h]; rfl,fun h=>strInts_inj (by rw [h]; rfl)⟩
theorem trimR_w (cut s:ByteArray) (hs:s.size≤1000000) {Q:ByteArray→List Bool→Prop} (h:∀ r,r.size≤s.size→(AllIn cut s↔AllIn cut r)→Q r (setD cut)):Ys.w s (setD cut) Q:=by
 unfold Ys.w
 refine ⟨fun z=>z.1 = setD cut∧z.2.size≤s.size∧(AllIn cut s↔AllIn cut z.2),fun z=>z.2.size,⟨rfl,Nat.le_refl _,Iff.rfl⟩,?_⟩
 rintro ⟨a1,a2⟩ ⟨h1,h2,h3⟩
 dsimp only at h1 h2 h3 ⊢
 subst h1
 have hl:=Zt a2
 split
 ·rename_i c
  have hn:a2.size - 1 < a2.size:=by omega
  have e1:((a2.size:Int) - 1).toNat = a2.size - 1:=by omega
  obtain ⟨v,hg,e2⟩:=byteAt a2 hn
  refine ⟨⟨by omega,by omega⟩,by omega,v,by rw [e1]; exact hg,?_⟩
  unfold Z3.w
  have hb:=ubyte v
  refine ⟨hb.1,by have:=hb.2; omega,_,setD_get cut hb,?_⟩
  dsimp only
  split
  ·exact h _ h2 h3
  ·rename_i c2
   have c2:(Zd a2)[a2.size - 1]∈Zd cut:=by rw [← e2]; simpa using c2
   refine ⟨⟨by omega,by omega⟩,by omega,⟨rfl,?_,h3.trans ?_⟩,?_⟩
   ·rw [ByteArray.size_extract]; omega
   ·unfold AllIn
    rw [e1,Sq.ext_ints,List.drop_zero]
    constructor
    ·exact fun k c hc=>k c (List.mem_of_mem_take hc)
    ·intro k c hc
     rw [← List.take_append_drop (a2.size - 1) (Zd a2)] at hc
     rcases List.mem_append.1 hc with hc | hc
     ·exact k c (by simpa using hc)
     ·rw [List.drop_eq_getElem_cons (by omega),List.drop_eq_nil_of_le (by omega),List.mem_singleton] at hc
      rw [hc]; exact c2
   ·rw [ByteArray.size_extract]; omega
 ·exact h _ h2 h3
theorem trimL_w (cut s:ByteArray) (hs:s.size≤1000000) {Q:ByteArray→List Bool→Prop} (h:∀ r,(r = ByteArray.mk #[]↔AllIn cut s)→Q r (setD cut)):Yu.w s (setD cut) Q:=by
 unfold Yu.w
 refine ⟨fun z=>z.1 = setD cut∧z.2.size≤s.size∧(AllIn cut s↔AllIn cut z.2),fun z=>z.2.size,⟨rfl,Nat.le_refl _,Iff.rfl⟩,?_⟩
 rintro ⟨a1,a2⟩ ⟨h1,h2,h3⟩
 dsimp only at h1 h2 h3 ⊢
 subst h1
 have hl:=Zt a2
 split
 ·rename_i c
  have hn:0 < a2.size:=by omega
  obtain ⟨v,hg,e2⟩:=byteAt a2 hn
  refine ⟨v,hg,?_⟩
  unfold Z3.w
  have hb:=ubyte v
  refine ⟨hb.1,by have:=hb.2; omega,_,setD_get cut hb,?_⟩
  dsimp only
  split
  ·rename_i c2
   have c2:(Zd a2)[0]∉Zd cut:=by rw [← e2]; simpa using c2
   refine h _ ?_
   rw [h3]
   constructor
   ·intro k; rw [k] at hn; exact absurd hn (by decide)
   ·intro k; exact absurd (k _ (List.getElem_mem _)) c2
  ·rename_i c2
   have c2:(Zd a2)[0]∈Zd cut:=by rw [← e2]; simpa using c2
   refine ⟨by omega,⟨rfl,?_,h3.trans ?_⟩,?_⟩
   ·rw [ByteArray.size_extract]; omega
   ·unfold AllIn
    rw [Sq.ext_ints,List.take_of_length_le (by simp; omega)]
    constructor
    ·exact fun k c hc=>k c (List.mem_of_mem_drop hc)
    ·intro k c hc
     rw [← List.take_append_drop 1 (Zd a2)] at hc
     rcases List.mem_append.1 hc with hc | hc
     ·rw [List.take_one,List.head?_eq_getElem?,List.getElem?_eq_getElem (by omega)] at hc
      simp at hc
      rw [hc]; exact c2
     ·exact k c hc
   ·rw [ByteArray.size_extract]; omega
 ·refine h _ ?_
  rw [h3]
  have:Zd a2 = []:=by apply List.eq_nil_of_length_eq_zero; omega
  constructor
  ·intro _ c hc; rw [this] at hc; cases hc
  ·intro _; exact (empty_iff a2).2 this
theorem trim_w (s cut:ByteArray) (hs:s.size≤1000000) (h128:∀ c∈Zd cut,c < 128) (hc:2≤cut.size∧cut.size≤1000) {Q:ByteArray→Prop} (h:∀ r,(r = ByteArray.mk #[]↔AllIn cut s)→Q r):Trim2.w s cut Q:=by
 refine ⟨fun e=>h s ?_,hc.1,setD cut,setD_len cut,set_w cut h128 hc.2,fun _=>trimR_w cut s hs fun r hr h1=>trimL_w cut r (by omega) fun r2 h2=>h r2 (h2.trans h1.symm)⟩
 rw [e]
 exact ⟨(fun _ c hc=>by cases hc),fun _=>rfl⟩
theorem preD_w (s:ByteArray) {Q:ByteArray→Prop} (h:Q (preD s)):Yp.w s ⟨#[46]⟩ Q:=by
 unfold Yp.w Yb.w Yc.w
 unfold preD at h
 have e1:(⟨#[46]⟩:ByteArray).size = 1:=rfl
 rw [e1]
 by_cases c1:1≤s.size
 ·rw [if_pos (by omega)]
  refine ⟨c1,?_⟩
  by_cases c2:s.extract 0 1 = ⟨#[46]⟩
  ·rw [if_pos ⟨c1,c2⟩] at h
   rw [if_pos (by simpa using c2)]; exact ⟨c1,h⟩
  ·rw [if_neg fun q=>c2 q.2] at h
   rw [if_neg (by simpa using c2)]; exact h
 ·rw [if_neg (by omega)]
  dsimp only
  rw [if_neg (by simp)]
  rw [if_neg fun q=>c1 q.1] at h; exact h
theorem sufD_w (s:ByteArray) (hs:s.size≤1000000) {Q:ByteArray→Prop} (h:Q (sufD s)):Z8.w s ⟨#[46]⟩ Q:=by
 unfold Z8.w Z2.w Z4.w
 unfold sufD at h
 have e1:(⟨#[46]⟩:ByteArray).size = 1:=rfl
 rw [e1]
 by_cases c1:1≤s.size
 ·rw [if_pos (by omega)]
  have e2:((s.size:Int) - ((1:Nat):Int)).toNat = s.size - 1:=by omega
  rw [e2]
  refine ⟨by constructor <;> omega,by omega,by omega,?_⟩
  by_cases c2:s.extract (s.size - 1) s.size = ⟨#[46]⟩
  ·rw [if_pos ⟨c1,c2⟩] at h
   rw [if_pos (by simpa using c2)]; exact ⟨by constructor <;> omega,by omega,by omega,h⟩
  ·rw [if_neg fun q=>c2 q.2] at h
   rw [if_neg (by simpa using c2)]; exact h
 ·rw [if_neg (by omega)]
  dsimp only
  rw [if_neg (by simp)]
  rw [if_neg fun q=>c1 q.1] at h; exact h
theorem preD_le (s:ByteArray):(preD s).size≤s.size:=by
 unfold preD
 split
 ·rw [ByteArray.size_extract]; omega
 ·exact Nat.le_refl _
theorem sufD_le (s:ByteArray):(sufD s).size≤s.size:=by
 unfold sufD
 split
 ·rw [ByteArray.size_extract]; omega
 ·exact Nat.le_refl _
theorem Zwb (c:Int):c∈Zd lettersB↔smallD c = true:=by
 have:Zd lettersB = [97,98,99,100,101,102,103,104,105,106,107,108,109,110,111,112,113,114,115,116,117,118,119,120,121,122]:=rfl
 rw [this]
 simp only [List.mem_cons,List.not_mem_nil,or_false,smallD,Bool.and_eq_true,decide_eq_true_eq]
 omega
theorem digits_mem (c:Int):c∈Zd digitsB↔digitD c = true:=by
 have:Zd digitsB = [48,49,50,51,52,53,54,55,56,57]:=rfl
 rw [this]
 simp only [List.mem_cons,List.not_mem_nil,or_false,digitD,Bool.and_eq_true,decide_eq_true_eq]
 omega
theorem right_w (p:Zj) (h1:p.Letters.size≤1000∧p.Figures.size≤1000):right.w p (· = rightX p):=by
 unfold right.w
 refine preD_w _ (sufD_w _ (by have:=preD_le p.Letters; omega) ?_)
 have hs1:=sufD_le (preD p.Letters)
 have hs2:=preD_le p.Letters
 refine trim_w _ _ (by omega) (fun c hc=>by have:=(Zwb c).1 hc; simp only [smallD,Bool.and_eq_true,decide_eq_true_eq] at this; omega) ⟨by decide,by decide⟩ fun r3 h3=>?_
 refine trim_w _ _ (by omega) (fun c hc=>by have:=(digits_mem c).1 hc; simp only [digitD,Bool.and_eq_true,decide_eq_true_eq] at this; omega) ⟨by decide,by decide⟩ fun r4 h4=>?_
 have e3:decide (r3 = ByteArray.mk #[]) = (Zd (sufD (preD p.Letters))).all smallD:=by
  rw [Bool.eq_iff_iff,decide_eq_true_iff,h3,List.all_eq_true]
  exact ⟨fun h c hc=>(Zwb c).1 (h c hc),fun h c hc=>(Zwb c).2 (h c hc)⟩
 have e4:decide (r4 = ByteArray.mk #[]) = (Zd p.Figures).all digitD:=by
  rw [Bool.eq_iff_iff,decide_eq_true_iff,h4,List.all_eq_true]
  exact ⟨fun h c hc=>(digits_mem c).1 (h c hc),fun h c hc=>(digits_mem c).2 (h c hc)⟩
 refine ⟨⟨by omega,by omega⟩,?_⟩
 rw [e3,e4]; rfl
theorem rightX_size {p:Zj} (h:rightX p = true):p.Figures.size = p.Letters.size+1:=by
 simp only [rightX,Bool.and_eq_true,decide_eq_true_eq] at h
 omega
abbrev Jya:Nat:=97
noncomputable def Kra:AC:=
 (.seq (.reg [oO 4 (.assign (.const (.string (ByteArray.mk #[]))))]) (.seq (.seq (.reg [oM 6 1,oO 7 (oK 133 #[(oT 6)] #[9]),oO 8 (.unOp .not 4 (oT 7))]) (.cond (oT 8) (.seq (.reg [oO 4 (.assign (.const (.string (ByteArray.mk #[]))))]) .ret) .skip)) (.seq (.reg [oM 9 1,oN 10 9 9,oO 11 (.binOp .add 3 (oT 10) (oC 3) 3),oO 12 (.call (.mk (.value (.func 134)) #[(.const (.string (ByteArray.mk #[48]))),(oT 11)] #[9,3])),oO 13 (.convert 9 57 (oT 12)),oO 5 (.alloc 57),oS (.store 57 (oT 5) (oT 13))]) (.seq (.reg [oM 14 0,oM 15 1,oO 16 (oK 136 #[(oT 15)] #[9]),oO 17 (.binOp .add 9 (.const (.string (ByteArray.mk #[46]))) (oT 16) 9),oO 18 (.binOp .add 9 (oT 17) (.const (.string (ByteArray.mk #[46]))) 9),oO 19 (.makeFunc (Fn.func 137) #[] #[(oT 5)]),oO 20 (oK 135 #[(oT 14),(oT 18),(oT 19)] #[24,9,177])]) (.seq (.reg [oL 21 57 5,oM 22 1,oN 23 22 9,oO 24 (.binOp .add 3 (oT 23) (oC 1) 3),oO 25 (.slice 57 (oT 21) (some (oC 2)) (some (oT 24)) none),oO 26 (.convert 57 9 (oT 25)),oA 4 26]) .ret)))))
theorem Xfb:EN Kra [(ResultVar.tmp 4)] 27 97:=acE Tryz.func97 (ann:=Yy)
theorem repeat_ints (n:Nat):Zd (Z1a (ByteArray.mk #[48]) n) = List.replicate n 48:=by
 unfold Z1a Zd
 simp only [List.toList_toArray]
 induction n with
 | zero=>rfl
 | succ n ih=>
  show ((([48]:List UInt8)++Lib.repeatL [48] n).map fun b=>((b.toNat:Nat):Int)) = _
  rw [List.map_append,List.replicate_succ]
  show 48 :: _ = _
  congr 1
theorem text_vw {T:Tab} {h0 h:Hp} {its:List Itm} (H:AM.Own h0 h its) (j:Nat) {x y:AV} {l:List Int} {ty:Option (Nat×Nat)} (hj:its[j]? = some ⟨x,false,1,l.map Xj,ty⟩) {lo hi:Nat} (hv:Vw x y 1 lo hi) {s d e n1 n2 m1 m2 k1 k2:Nat} {z1 z2 z3:List Value} {q1 q2 q3:Option (List (Nat×TK))}
  (hs:T s = some ⟨n1,n2,z1,.sl e,q1⟩) (hd:T d = some ⟨m1,m2,z2,.str,q2⟩) (he:T e = some ⟨k1,k2,z3,.int .u8,q3⟩):Ybb T s d y h = some (.val (.string (Yg ((l.take hi).drop lo)))):=by
 simp only [Ybb,hs,hd,he,H.srcV j hj hv,← List.map_take,← List.map_drop,Z4b]; rfl
end Go.Proofs.YtpkhmfedaaoalaaGreatDoor.Fg
namespace Go.Proofs.YtpkhmfedaaoalaaGreatDoor
open Go Go.Proofs.YtpkhmfedaaoalaaGreatDoor.AM Go.Proofs.YtpkhmfedaaoalaaGreatDoor.Fg
abbrev Jya:Nat:=97
def Zda.w (ps:List Zj) (w:ByteArray) (Q:ByteArray→Prop):Prop:=(ps.length≤1000∧(∀ p∈ps,p.Letters.size≤1000∧p.Figures.size≤1000)∧w.size≤1000000)∧Q (Zwa ps w)
theorem Zda.ok {ps:List Zj} {w:ByteArray} {Q:ByteArray→Prop} (hm:Zda.w ps w Q) (h0:Hp):Zo Tryz.prog Jya [(.isl 2 (ps.map Zj.enc)),astr w] h0 (Back h0 (fun r=>astr r) Q):=by
 refine Xfb ?_
 obtain ⟨⟨hp1,hp2,hws⟩,hm⟩:=hm
 unfold Zwa at hm
 have H:=AM.Own.nil h0
 try simp -implicitDefEqProofs (disch:=omega) only [push_cast,seval,Kra]
 refine Zn (fun h=>Xba.ok (word_w w hws) h) (fun r1 e1=>?_)
 subst e1
 refine sg0 ?_
 rw [Zw]
 refine ⟨fun c1=>?_,fun c1=>?_⟩
 ·rw [if_neg (by simpa using c1)] at hm
  refine sg0 ?_
  exact Zb (.inl rfl) _ _ rfl (Zf.refl _ _) H.sub hm
 have c1:wordD w = true:=by simpa using c1
 rw [if_pos c1] at hm
 have w1:IntKind.i64.wrap ((w.size:Int)+3) = (w.size:Int)+3:=wrap_i64 _ (by omega)
 refine sg w1 ?_
 refine Zn (fun h=>strings_Repeat.ok (Q:=(· = Z1a (ByteArray.mk #[48]) (w.size+3))) ⟨by omega,by omega,?_,?_⟩ h) (fun r2 e2=>?_)
 ·show 1 * _≤_
  omega
 ·rw [show ((w.size:Int)+3).toNat = w.size+3 by omega]
 subst e2
 refine sg w1 ?_
 rw [Xma Zmb Ja tab_5]
 refine H.newL (E:=Xj) (Zd (Z1a (ByteArray.mk #[48]) (w.size+3))) rfl (Zt _) (fun b3 h4 H=>?_)
 refine sg0 ?_
 refine H.newR [anil] rfl (fun b5 h5 H=>?_)
 refine sg (H.p 1 rfl) ?_
 refine H.stP 1 [.osl b3 1 0 (Z1a (ByteArray.mk #[48]) (w.size+3)).size] rfl rfl rfl rfl (Nat.le_of_ble_eq_true rfl) rfl (fun h6 H=>?_)
 refine sg0 ?_
 refine Zn (fun h=>Xla.ok (Q:=(· = Yg ((Zd w).map lowD))) (Low_w w (by unfold big; omega) rfl) h) (fun r3 e3=>?_)
 subst e3
 have hls:(Yg ((Zd w).map lowD)).size = w.size:=by rw [Sq.ofB_size,List.length_map,Zt]
 have hd1:(ByteArray.mk #[46]).size = 1:=rfl
 have s1:=eq_true (show (ByteArray.mk #[46]).size+(Yg ((Zd w).map lowD)).size≤9223372036854775807 by omega)
 have s2:=eq_true (show (ByteArray.mk #[46]++Yg ((Zd w).map lowD)).size+(ByteArray.mk #[46]).size≤9223372036854775807 by rw [ByteArray.size_append]; omega)
 refine sg (ai s1 s2) ?_
 have hlen:(Zd (Z1a (ByteArray.mk #[48]) (w.size+3))).length = w.size+3:=by rw [repeat_ints,List.length_replicate]
 have hsize:((dotD++Yg ((Zd w).map lowD))++dotD).size = w.size+2:=by
  rw [ByteArray.size_append,ByteArray.size_append,Sq.ofB_size,List.length_map,Zt]
  show 1+w.size+1 = _
  omega
 have H0:AM.Own h0 h6 (figI b5 (.osl b3 1 0 (Z1a (ByteArray.mk #[48]) (w.size+3)).size) (Zd (Z1a (ByteArray.mk #[48]) (w.size+3)))):=H
 refine Z1 (matches_ok (s:=(dotD++Yg ((Zd w).map lowD))++dotD) H0 (ri:=rightX) (ps:=ps) (by omega) (fun p h=>rightX_size h) (fun p hp=>right_w p (hp2 p hp)) (by omega) (by omega)) ?_
 rintro _ h7 ⟨xf,rfl,H⟩
 rw [repeat_ints,hsize] at H
 have hfl:=X6a rightX ps ((dotD++Yg ((Zd w).map lowD))++dotD) (List.replicate (w.size+3) 48) (w.size+2)
 rw [List.length_replicate] at hfl
 generalize matchF rightX ps ((dotD++Yg ((Zd w).map lowD))++dotD) (List.replicate (w.size+3) 48) (w.size+2) = F at H hm hfl
 unfold figI at H
 have hne:1≤w.size:=by
  rcases Nat.eq_zero_or_pos w.size with e | e
  ·have hl:=Zt w
   have:Zd w = []:=by apply List.eq_nil_of_length_eq_zero; omega
   simp [wordD,(empty_iff w).2 this] at c1
  ·exact e
 have w2:IntKind.i64.wrap ((w.size:Int)+1) = (w.size:Int)+1:=wrap_i64 _ (by omega)
 have z2:=eq_true (show 0≤(w.size:Int)+1 by omega)
 refine sg (ai w2 (ai z2 (H.p 1 rfl))) ?_
 refine H.slc 0 rfl Ja tab_5 rfl rfl (by simp only [Vy,push_cast,z2]) (show 2≤((w.size:Int)+1).toNat by omega) (by simp; omega) (fun y vw=>?_)
 refine sg (text_vw H 0 rfl vw Ja Zmb tab_5) ?_
 rw [show ((w.size:Int)+1).toNat = w.size+1 by omega]
 exact Zb (.inl rfl) _ _ rfl (Zf.refl _ _) H.sub hm
end Go.Proofs.YtpkhmfedaaoalaaGreatDoor
