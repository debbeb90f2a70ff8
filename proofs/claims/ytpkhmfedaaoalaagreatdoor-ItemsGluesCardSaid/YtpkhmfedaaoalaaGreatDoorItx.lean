/- ItemsGlues: a part of its proof (packed by a program). -/
import Derived.Test.YtpkhmfedaaoalaaGreatDoorPln
import Derived.Test.YtpkhmfedaaoalaaGreatDoorWA1
set_option linter.all false
namespace Go.Proofs.YtpkhmfedaaoalaaGreatDoor
open Go Go.Proofs.YtpkhmfedaaoalaaGreatDoor.AM
theorem wfor {σ:Type} {body:σ→(σ→Prop)→Prop} {s0:σ} (idx:σ→Int) (g:Nat→σ) (N:Nat) (P:Nat→Prop) (hi:∀ n,n≤N→idx (g n) = n) (hg:s0 = g 0) (h0:P 0) (hs:∀ n,n < N→P n→∀ K:σ→Prop,(P (n+1)→K (g (n+1)))→body (g n) K) (he:P N→∀ K,body (g N) K):X2 body s0:=by
 refine ⟨fun s=>∃ n,n≤N∧s = g n∧P n,fun s=>(N - idx s).toNat,⟨0,Nat.zero_le _,hg,h0⟩,?_⟩
 rintro s ⟨n,hn,rfl,hp⟩
 rcases Nat.lt_or_eq_of_le hn with h | rfl
 ·refine hs n h hp _ fun hp'=>⟨⟨n+1,h,rfl,hp'⟩,?_⟩
  show ((N:Int) - idx (g (n+1))).toNat < ((N:Int) - idx (g n)).toNat
  rw [hi _ h,hi _ hn]; omega
 ·exact he hp _
def big:Nat:=4611686018427387904
theorem V8 {x:Int} (h0:-4611686018427387904≤x) (h1:x≤4611686018427387905):I64 x:=⟨by omega,by omega⟩
theorem W7 {α:Type} (l:List α) {n:Nat} (h:n < l.length):l[(n:Int).toNat]? = some l[n]:=by simp [h]
theorem size_list (s:ByteArray):s.data.toList.length = s.size:=rfl
theorem bget (s:ByteArray) {n:Nat} (h:n < s.size):s[(n:Int).toNat]? = some (s.data.toList[n]'h):=by
 rw [Int.toNat_natCast]
 rw [getElem?_pos s n h]
 rfl
def cls (c:Int):Int:=if 97≤c∧c≤122 then 1 else if 65≤c∧c≤90 then 2 else if 48≤c∧c≤57 then 3 else if c = 32 then 5 else if c = 10 then 6 else
 if c∈([46,44,59,58,33,63,39,34,45,40,41,47]:List Int) then 4 else 0
def isL (c:Int):Bool:=decide (97≤c∧c≤122) || decide (65≤c∧c≤90)
abbrev Byte (c:Int):Prop:=0≤c∧c≤255
theorem Xnb {p:Int→Prop} (h:∀ n:Fin 256,p (n.val:Int)) {c:Int} (hc:Byte c):p c:=by
 have:=h ⟨c.toNat,by omega⟩
 simpa [Int.toNat_of_nonneg hc.1] using this
theorem ubyte (c:UInt8):Byte (c.toNat:Int):=⟨by omega,by have:=c.toNat_lt; omega⟩
def bitAt (c:Int):Nat:=(ishr .u8 c 6).toNat
def put1 (b:List Int) (c:Int):List Int:=b.set (bitAt c) (ior .u64 (b.getD (bitAt c) 0) (ishl .u64 1 (iand .u8 c 63)))
theorem bit_ok {c:Int} (hc:Byte c):(0≤ishr .u8 c 6∧bitAt c < 4)∧0≤iand .u8 c 63:=
 Xnb (p:=fun c=>(0≤ishr .u8 c 6∧bitAt c < 4)∧0≤iand .u8 c 63) (by decide +kernel) hc
theorem getD_some {l:List Int} {n:Nat} (h:n < l.length):l[n]? = some (l.getD n 0):=by simp [List.getD,h]
theorem of_w (s:ByteArray) (hs:s.size≤big) {Q:List Int→Prop} (h:Q ((Zd s).foldl put1 [0,0,0,0])):Wx.w s Q:=by
 unfold big at hs
 unfold Wx.w
 have hlen:∀ (l:List Int) (b:List Int),b.length = 4→(l.foldl put1 b).length = 4:=by
  intro l
  induction l with
  | nil=>intro b hb; exact hb
  | cons c l ih=>intro b hb; exact ih _ (by simp [put1,hb])
 refine wfor (fun s=>s.2) (fun n=>(((Zd s).take n).foldl put1 [0,0,0,0],(n:Int))) s.size (fun _=>True) (fun _ _=>rfl) rfl trivial ?_ ?_
 ·intro n hn _ K hK
  dsimp only
  rw [if_pos (by omega)]
  have hv:=ubyte (s.data.toList[n]'hn)
  obtain ⟨⟨b1,b2⟩,b3⟩:=bit_ok hv
  have h4:=hlen ((Zd s).take n) [0,0,0,0] rfl
  refine ⟨by omega,_,bget s hn,b1,b2,_,getD_some (by rw [h4]; exact b2),b3,b2,by rw [h4]; exact b2,V8 (by omega) (by omega),?_⟩
  have:=hK trivial
  have e:(Zd s).take (n+1) = (Zd s).take n++[((s.data.toList[n]'hn).toNat:Int)]:=by
   rw [List.take_add_one]
   congr 1
   simp [Zd,hn,size_list]
  rw [e,List.foldl_append] at this
  simpa [put1,bitAt] using this
 ·intro _ K
  dsimp only
  rw [if_neg (by omega)]
  have h4:=hlen ((Zd s).take s.size) [0,0,0,0] rfl
  have e:(Zd s).take s.size = Zd s:=List.take_of_length_le (by rw [Zt]; exact Nat.le_refl _)
  rw [e] at h4 ⊢
  exact ⟨h4,h4,rfl,h4,h⟩
def hasF (b:List Int) (c:Int):Bool:=decide (iand .u64 (ishr .u64 (b.getD (bitAt c) 0) (iand .u8 c 63)) 1 = 1)
theorem has_w (b:List Int) (hb:b.length = 4) {c:Int} (hc:Byte c) {Q:Bool→Prop} (h:Q (hasF b c)):Vr.w b c Q:=by
 obtain ⟨⟨b1,b2⟩,b3⟩:=bit_ok hc
 exact ⟨hb,b1,b2,_,getD_some (by rw [hb]; exact b2),b3,h⟩
def setOf (s:ByteArray):List Int:=(Zd s).foldl put1 [0,0,0,0]
def X6:List (List Int):=[[0,0,0,0],
 setOf ⟨#[97,98,99,100,101,102,103,104,105,106,107,108,109,110,111,112,113,114,115,116,117,118,119,120,121,122]⟩,
 setOf ⟨#[65,66,67,68,69,70,71,72,73,74,75,76,77,78,79,80,81,82,83,84,85,86,87,88,89,90]⟩,
 setOf ⟨#[48,49,50,51,52,53,54,55,56,57]⟩,setOf ⟨#[46,44,59,58,33,63,39,34,45,40,41,47]⟩,setOf ⟨#[32]⟩,setOf ⟨#[10]⟩]
theorem Xlb:X6.length = 7∧∀ v∈X6,v.length = 4:=by decide +kernel
theorem classes_w {Q:List (List Int)→Prop} (h:Q X6):Vl.w Q:=by
 unfold Vl.w J7.w
 refine of_w _ (by decide +kernel) (of_w _ (by decide +kernel) (of_w _ (by decide +kernel) (of_w _ (by decide +kernel) (of_w _ (by decide +kernel) (of_w _ (by decide +kernel) ?_)))))
 have hl:=Xlb
 refine ⟨hl.2 _ (by simp [X6,setOf]),hl.2 _ (by simp [X6,setOf]),hl.2 _ (by simp [X6,setOf]),hl.2 _ (by simp [X6,setOf]),hl.2 _ (by simp [X6,setOf]),hl.2 _ (by simp [X6,setOf]),hl,by decide,hl,h⟩
theorem class_has:∀ c:Fin 256,∀ m:Fin 7,hasF (X6.getD m.val []) (c.val:Int) = decide (cls (c.val:Int) = (m.val:Int)∧m.val≠0):=by decide +kernel
theorem cls_range:∀ c:Fin 256,0≤cls (c.val:Int)∧cls (c.val:Int) < 7:=by decide +kernel
theorem Class_w {c:Int} (hc:Byte c) {Q:Int→Prop} (h:Q (cls c)):Wi.w c Q:=by
 unfold Wi.w
 refine classes_w ?_
 have hl:=Xlb
 have hh:∀ m:Fin 7,hasF (X6.getD m.val []) c = decide (cls c = (m.val:Int)∧m.val≠0):=
  Xnb (p:=fun c=>∀ m:Fin 7,hasF (X6.getD m.val []) c = decide (cls c = (m.val:Int)∧m.val≠0)) class_has hc
 have hr:=Xnb (p:=fun c=>0≤cls c∧cls c < 7) cls_range hc
 refine wfor (fun i=>i) (fun n=>(n:Int)) 7 (fun n=>∀ m,m < n→¬ (cls c = (m:Int)∧m≠0)) (fun _ _=>rfl) rfl (by simp) ?_ ?_
 ·intro n hn hp K hK
  try dsimp only
  rw [if_pos (by omega)]
  have hv:X6[((n:Int)).toNat]? = some (X6.getD n []):=by
   rw [Int.toNat_natCast]; simp [List.getD,hl.1,hn]
  have h4:(X6.getD n []).length = 4:=hl.2 _ (by simp only [List.getD,List.getElem?_eq_getElem (show n < X6.length by rw [hl.1]; exact hn),Option.getD_some]; exact List.getElem_mem _)
  refine ⟨by omega,by omega,hl,_,hv,h4,rfl,h4,has_w _ h4 hc ?_⟩
  rw [hh ⟨n,hn⟩]
  by_cases e:cls c = (n:Int)∧n≠0
  ·rw [if_pos (by simpa using e)]
   rw [← e.1]; exact h
  ·rw [if_neg (by simpa using e)]
   refine ⟨V8 (by omega) (by omega),?_⟩
   have:=hK (fun m hm=>by
    rcases Nat.lt_succ_iff_lt_or_eq.1 hm with h1 | rfl
    ·exact hp m h1
    ·exact e)
   simpa using this
 ·intro hp K
  try dsimp only
  rw [if_neg (by omega)]
  have:cls c = 0:=by
   by_cases e:cls c = 0
   ·exact e
   ·exact absurd ⟨by rw [Int.toNat_of_nonneg hr.1],by omega⟩ (hp (cls c).toNat (by omega))
  rw [← this]; exact h
def ClsFacts (c:Int):Prop:=(cls c = 1↔(97≤c∧c≤122))∧(cls c = 2↔(65≤c∧c≤90))∧((65≤c∧c≤90)→ior .u8 c 32 = c+32)∧((97≤c∧c≤122)→iandn .u8 c 32 = c - 32) ∧
 ((65≤c∧c≤90)→IntKind.u8.wrap ((IntKind.u8.wrap (c - 65))+97) = c+32)
theorem cls_facts0:∀ c:Fin 256,ClsFacts (c.val:Int):=by unfold ClsFacts; decide +kernel
theorem cls_facts {c:Int} (hc:Byte c):ClsFacts c:=Xnb cls_facts0 hc
theorem cls1 {c:Int} (hc:Byte c):cls c = 1↔97≤c∧c≤122:=(cls_facts hc).1
theorem cls2 {c:Int} (hc:Byte c):cls c = 2↔65≤c∧c≤90:=(cls_facts hc).2.1
theorem Letter_w {c:Int} (hc:Byte c) {Q:Bool→Prop} (h:Q (isL c)):Wy.w c Q:=by
 unfold Wy.w
 refine Class_w hc ?_
 unfold isL at h
 split
 ·rename_i e
  rw [cls1 hc] at e
  simpa [e] using h
 ·rename_i e
  rw [cls1 hc] at e
  have:decide (cls c = 2) = (decide (97≤c∧c≤122) || decide (65≤c∧c≤90)):=by
   rw [decide_eq_false e,Bool.false_or]
   exact decide_eq_decide.2 (cls2 hc)
  rw [this]; exact h
theorem strInts_byte {s:ByteArray} {c:Int} (h:c∈Zd s):Byte c:=by
 obtain ⟨b,_,rfl⟩:=List.mem_map.1 h
 exact ubyte b
theorem Wu (l:List Int):(Yg l).size = l.length:=by simp [Yg,ByteArray.size]
theorem ofBytes_append (a b:List Int):Yg (a++b) = Yg a++Yg b:=by
 simp [Yg,ByteArray.append_eq,ByteArray.ext_iff]
theorem Vma {l:List Int} (h:∀ c∈l,Byte c):Zd (Yg l) = l:=by
 unfold Zd Yg
 simp only [List.toList_toArray,List.map_map]
 conv=>rhs; rw [← List.map_id l]
 refine List.map_congr_left fun c hc=>?_
 obtain ⟨h1,h2⟩:=h c hc
 simp only [Function.comp,id]
 rw [UInt8.toNat_ofNat_of_lt' (by show c.toNat < 256; omega)]
 omega
theorem White_w {c:Int} {Q:Bool→Prop} (h:Q (isW c)):Wh.w c Q:=by
 unfold Wh.w
 unfold isW at h
 split
 ·rename_i e; simpa [e] using h
 ·rename_i e; simpa [e] using h
end Go.Proofs.YtpkhmfedaaoalaaGreatDoor
