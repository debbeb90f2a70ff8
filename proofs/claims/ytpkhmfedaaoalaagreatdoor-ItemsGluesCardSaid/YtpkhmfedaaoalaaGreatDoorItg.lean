/- ItemsGlues: a part of its proof (packed by a program). -/
import Derived.Test.YtpkhmfedaaoalaaGreatDoorIte
set_option linter.all false
namespace Go.Proofs.YtpkhmfedaaoalaaGreatDoor
open Go Go.Proofs.YtpkhmfedaaoalaaGreatDoor.AM Fo
abbrev sFlows:ByteArray:=⟨#[49,50,51,112,105,99,110]⟩
def Zpa (k:Int):Bool:=decide (0≤Y2b sFlows k)
def ownF:Int→Int→Fo→List Int
 | _,_,nil=>[]
 | b,f,text x cs r=>f :: ownF (b+1) f r
 | b,f,node o k c r=>f :: (ownF (b+1) (if Zpa o.Ch then b else f) k++ownF (b+1+(Zl k).length) f r)
abbrev OFr:=List (Fo×Option Int)
def X4:OFr→List Int
 | []=>[]
 | (_,j) :: K=>X4 K++j.toList
def cur (K:OFr):Int:=(X4 K).getLast?.getD 0
def remO:Int→Fo→OFr→List Int
 | i,R,[]=>ownF i 0 R
 | i,R,(S,j) :: K=>ownF i (cur ((S,j) :: K)) R++remO (i+(Zl R).length) S K
def remM:Fo→OFr→List Za
 | R,[]=>Zl R
 | R,(S,_) :: K=>Zl R++remM S K
def EndOK (t:List Za):Int→Fo→OFr→Prop
 | _,_,[]=>True
 | i,R,(S,j) :: K=>(∀ v,j = some v→0≤v∧∃ nd,t[v.toNat]? = some nd∧v+nd.Size = i+(Zl R).length)∧EndOK t (i+(Zl R).length) S K
theorem X2a:∀ (F:Fo) (b f:Int),(ownF b f F).length = (Zl F).length
 | nil,_,_=>rfl
 | text x cs r,b,f=>by simp [ownF,Zl,X2a r]
 | node o k c r,b,f=>by simp [ownF,Zl,X2a r,X2a k]
theorem remO_len:∀ (K:OFr) (i:Int) (R:Fo),(remO i R K).length = (remM R K).length
 | [],i,R=>X2a R i 0
 | (S,j) :: K,i,R=>by simp [remO,remM,X2a,remO_len K]
theorem EndOK_congr {t:List Za} {i i':Int} {R R':Fo} (h:i+(Zl R).length = i'+(Zl R').length) (K:OFr) (H:EndOK t i R K):EndOK t i' R' K:=by
 cases K with
 | nil=>trivial
 | cons p K=>obtain ⟨S,j⟩:=p; simp only [EndOK] at H ⊢; rw [← h]; exact H
theorem EndOK_last {t:List Za}:∀ (K:OFr) (i:Int) (R:Fo) {L:List Int} {v:Int},EndOK t i R K→X4 K = L++[v]→0≤v∧∃ nd,t[v.toNat]? = some nd∧i+(Zl R).length≤v+nd.Size
 | [],_,_,L,v,_,h=>by simp [X4] at h
 | (S,none) :: K,i,R,L,v,H,h=>by
  simp only [X4,Option.toList_none,List.append_nil] at h
  obtain ⟨h0,nd,h1,h2⟩:=EndOK_last K _ S H.2 h
  exact ⟨h0,nd,h1,by omega⟩
 | (S,some j) :: K,i,R,L,v,H,h=>by
  simp only [X4,Option.toList_some] at h
  obtain ⟨_,e⟩:=List.append_inj' h rfl
  cases e
  obtain ⟨h0,nd,h1,h2⟩:=H.1 j rfl
  exact ⟨h0,nd,h1,by omega⟩
structure OwI (F:Fo) (i:Nat) (ds:List Int) (R:Fo) (K:OFr):Prop where
 a:ds++remO i R K = ownF 0 0 F
 l:ds.length = i
 c:(Zl F).drop i = remM R K
 e:EndOK (Zl F) i R K
def NF (R:Fo) (K:OFr):Prop:=R≠nil∨K = []∨∃ S v K',K = (S,some v) :: K'
theorem OwI.norm {F:Fo} {i:Nat} {ds:List Int}:∀ (K:OFr) (R:Fo),OwI F i ds R K→∃ R' K',OwI F i ds R' K'∧NF R' K'∧X4 K' = X4 K
 | [],R,H=>⟨R,[],H,.inr (.inl rfl),rfl⟩
 | (S,some v) :: K,R,H=>⟨R,_,H,.inr (.inr ⟨S,v,K,rfl⟩),rfl⟩
 | (S,none) :: K,R,H=>by
  cases R with
  | nil=>
   have H2:OwI F i ds S K:=⟨by
     have:=H.a
     simp only [remO,ownF,List.nil_append,Zl,List.length_nil,Int.natCast_zero,Int.add_zero] at this
     exact this,H.l,H.c,by have:=H.e.2; simpa [Zl] using this⟩
   obtain ⟨R',K',h1,h2,h3⟩:=OwI.norm K S H2
   exact ⟨R',K',h1,h2,by rw [h3]; simp [X4]⟩
  | text x cs r=>exact ⟨_,_,H,.inl (by simp),rfl⟩
  | node o k c r=>exact ⟨_,_,H,.inl (by simp),rfl⟩
theorem dot_flow:Zpa 46 = false:=by decide +kernel
theorem remO_text (i:Int) (x:Ze) (cs:List Ze) (r:Fo) (K:OFr):remO i (text x cs r) K = cur K :: remO (i+1) r K:=by
 cases K with
 | nil=>rfl
 | cons p K=>
  obtain ⟨S,j⟩:=p
  have e:i+(Zl (text x cs r)).length = i+1+(Zl r).length:=by simp [Zl]; omega
  simp only [remO,e,ownF,List.cons_append]
theorem remO_node (i:Int) (o c:Ze) (k r:Fo) (K:OFr):remO i (node o k c r) K = cur K :: (ownF (i+1) (if Zpa o.Ch then i else cur K) k++remO (i+1+(Zl k).length) r K):=by
 cases K with
 | nil=>rfl
 | cons p K=>
  obtain ⟨S,j⟩:=p
  have e:i+(Zl (node o k c r)).length = i+1+(Zl k).length+(Zl r).length:=by simp [Zl]; omega
  simp only [remO,e,ownF,List.cons_append,List.append_assoc]
theorem X3a {α:Type} (l:List α):l = []∨∃ L v,l = L++[v]:=by
 by_cases h:l = []
 ·exact .inl h
 ·exact .inr ⟨l.dropLast,l.getLast h,(List.dropLast_concat_getLast h).symm⟩
theorem owners_w (F:Fo) (hl:(Zl F).length≤1000000) (hd:plF F) {Q:List Int→Prop} (h:Q (ownF 0 0 F)):K4.w (Zl F) Q:=by
 unfold K4.w
 refine ⟨⟨by omega,by omega,by omega⟩,?_⟩
 refine Zib (fun s=>∃ (i:Nat) (ds:List Int) (R:Fo) (K:OFr),i≤(Zl F).length∧s = (ds++List.replicate ((Zl F).length - i) 0,X4 K,(i:Int))∧OwI F i ds R K∧(X4 K).length≤i) (fun s=>((Zl F).length - s.2.2).toNat)
  ⟨0,[],F,[],Nat.zero_le _,by simp [X4],⟨rfl,rfl,rfl,trivial⟩,by simp [X4]⟩ ?_
 rintro _ ⟨i,ds,R,K,hi,rfl,hI,hop⟩ N hN
 dsimp only
 by_cases hlt:i < (Zl F).length
 ·rw [if_pos (by omega)]
  unfold wcut
  dsimp only
  obtain ⟨R,K,hI,hnf,hopen⟩:=hI.norm K R
  rw [← hopen] at hop ⊢
  clear hopen
  refine Zib (fun s=>∃ (R:Fo) (K:OFr),s = X4 K∧OwI F i ds R K∧NF R K∧(X4 K).length≤i) (fun s=>s.length) ⟨R,K,rfl,hI,hnf,hop⟩ ?_
  rintro _ ⟨R,K,rfl,hI,hnf,hop⟩ M hM
  try dsimp only
  have fin:R≠nil→(if 0 < ((X4 K).length:Int) then
      (I64 (((X4 K).length:Int) - 1)) ∧
      (0≤((X4 K).length:Int) - 1) ∧
      ∃ v4:Int,(X4 K)[(((X4 K).length:Int) - 1).toNat]? = some v4 ∧
      (0≤(i:Int)) ∧
      ∃ v5:Int,(ds++List.replicate ((Zl F).length - i) 0)[(i:Int).toNat]? = some v5 ∧
      (0≤(i:Int)) ∧
     ∃ v6:Za,(Zl F)[(i:Int).toNat]? = some v6 ∧
     strings_IndexByte.w (ByteArray.mk #[49,50,51,112,105,99,110]) v6.Kind (fun r1=>
      if 0≤r1 then
       (((X4 K).length+([(i:Int)]:List Int).length) * 8≤140737488355328) ∧
       (I64 ((i:Int)+1)) ∧
       N ((ds++List.replicate ((Zl F).length - i) 0).set (i:Int).toNat v4,X4 K++([(i:Int)]:List Int),(i:Int)+1)
      else
       (I64 ((i:Int)+1)) ∧
       N ((ds++List.replicate ((Zl F).length - i) 0).set (i:Int).toNat v4,X4 K,(i:Int)+1))
     else
      (0≤(i:Int)) ∧
     ∃ v6:Za,(Zl F)[(i:Int).toNat]? = some v6 ∧
     strings_IndexByte.w (ByteArray.mk #[49,50,51,112,105,99,110]) v6.Kind (fun r1=>
      if 0≤r1 then
       (((X4 K).length+([(i:Int)]:List Int).length) * 8≤140737488355328) ∧
       (I64 ((i:Int)+1)) ∧
       N ((ds++List.replicate ((Zl F).length - i) 0),X4 K++([(i:Int)]:List Int),(i:Int)+1)
      else
       (I64 ((i:Int)+1)) ∧
       N ((ds++List.replicate ((Zl F).length - i) 0),X4 K,(i:Int)+1))):=by
   intro hR
   have er:List.replicate ((Zl F).length - i) (0:Int) = 0 :: List.replicate ((Zl F).length - (i+1)) 0:=by
    rw [show (Zl F).length - i = ((Zl F).length - (i+1))+1 from by omega,List.replicate_succ]
   have eset:∀ v:Int,(ds++List.replicate ((Zl F).length - i) (0:Int)).set (i:Int).toNat v = (ds++[v])++List.replicate ((Zl F).length - (i+1)) 0:=by
    intro v
    rw [er,Int.toNat_natCast,List.set_append,hI.l,if_neg (by omega)]; simp
   have eget:(ds++List.replicate ((Zl F).length - i) (0:Int))[(i:Int).toNat]? = some 0:=by
    rw [er,Int.toNat_natCast,List.getElem?_append,hI.l,if_neg (by omega)]; simp
   have ezero:(ds++List.replicate ((Zl F).length - i) (0:Int)) = (ds++[0])++List.replicate ((Zl F).length - (i+1)) 0:=by rw [er]; simp
   have hd2:=hI.c
   rw [List.drop_eq_getElem_cons hlt] at hd2
   have nxt:strings_IndexByte.w (ByteArray.mk #[49,50,51,112,105,99,110]) (Zl F)[i].Kind (fun r1=>
      if 0≤r1 then
       (((X4 K).length+([(i:Int)]:List Int).length) * 8≤140737488355328) ∧
       (I64 ((i:Int)+1)) ∧
       N ((ds++[cur K])++List.replicate ((Zl F).length - (i+1)) 0,X4 K++([(i:Int)]:List Int),(i:Int)+1)
      else
       (I64 ((i:Int)+1)) ∧
       N ((ds++[cur K])++List.replicate ((Zl F).length - (i+1)) 0,X4 K,(i:Int)+1)):=by
    unfold strings_IndexByte.w
    dsimp only
    have hN':∀ (R':Fo) (K':OFr),OwI F (i+1) (ds++[cur K]) R' K'→(X4 K').length≤i+1→N ((ds++[cur K])++List.replicate ((Zl F).length - (i+1)) 0,X4 K',(i:Int)+1):=
     fun R' K' h1 h2=>hN _ ⟨i+1,ds++[cur K],R',K',hlt,by simp,h1,h2⟩ (by simp; omega)
    cases R with
    | nil=>exact absurd rfl hR
    | text x cs r=>
     have h1:(Zl F)[i] = ⟨46,str (x :: cs),x.At,1⟩∧(Zl F).drop (i+1) = remM r K:=by
      cases K with
      | nil=>exact List.cons.inj hd2
      | cons p K=>obtain ⟨S,j⟩:=p; exact List.cons.inj hd2
     rw [h1.1]
     dsimp only
     rw [if_neg (show ¬ 0≤Y2b sFlows 46 by have:=dot_flow; unfold Zpa at this; simpa using this)]
     refine ⟨by constructor <;> omega,hN' r K ⟨?_,by simp [hI.l],h1.2,EndOK_congr (by simp [Zl]; omega) K hI.e⟩ (by omega)⟩
     have ha:=hI.a
     rw [← ha,remO_text]; simp
    | node o k c r=>
     have h1:(Zl F)[i] = ⟨o.Ch,⟨#[]⟩,o.At,((Zl k).length:Int)+1⟩∧(Zl F).drop (i+1) = Zl k++remM r K:=by
      cases K with
      | nil=>exact List.cons.inj hd2
      | cons p K=>obtain ⟨S,j⟩:=p; have:=List.cons.inj hd2; exact ⟨this.1,by rw [this.2]; simp [remM]⟩
     have hget:(Zl F)[(i:Int).toNat]? = some ⟨o.Ch,⟨#[]⟩,o.At,((Zl k).length:Int)+1⟩:=by
      rw [Int.toNat_natCast,List.getElem?_eq_getElem hlt,h1.1]
     have ha:=hI.a
     have enew:∀ j:Option Int,cur ((r,j) :: K) = (if Zpa o.Ch then (i:Int) else cur K)→(ds++[cur K])++remO ((i:Int)+1) k ((r,j) :: K) = ownF 0 0 F:=by
      intro j hj
      rw [← ha]
      simp only [remO]
      rw [hj]
      rw [remO_node]; simp
     rw [h1.1]
     dsimp only
     have hK1:EndOK (Zl F) ((i:Int)+1+(Zl k).length) r K:=EndOK_congr (by simp [Zl]; omega) K hI.e
     by_cases hf:0≤Y2b sFlows o.Ch
     ·rw [if_pos hf]
      have hfl:Zpa o.Ch = true:=by simp [Zpa,hf]
      refine ⟨by simp; omega,by constructor <;> omega,?_⟩
      refine hN' k ((r,some (i:Int)) :: K) ⟨by simpa using enew (some (i:Int)) (by rw [hfl]; simp [cur,X4]),by simp [hI.l],h1.2,?_,?_⟩ (by simp [X4]; omega)
      ·intro v hv; cases hv; exact ⟨by omega,_,hget,by simp; omega⟩
      ·simpa using hK1
     ·rw [if_neg hf]
      have hfl:Zpa o.Ch = false:=by simp [Zpa,hf]
      refine ⟨by constructor <;> omega,?_⟩
      have:=hN' k ((r,none) :: K) ⟨by simpa using enew none (by rw [hfl]; simp [cur,X4]),by simp [hI.l],h1.2,⟨(fun v hv=>by cases hv),by simpa using hK1⟩⟩ (by simp [X4]; omega)
      simpa [X4] using this
   have hg:=W7 (Zl F) hlt
   rcases X3a (X4 K) with e | ⟨L,v,e⟩
   ·rw [e]
    rw [if_neg (by simp)]
    have ec:cur K = 0:=by unfold cur; rw [e]; rfl
    rw [ec,e] at nxt
    refine ⟨by omega,_,hg,?_⟩
    rw [ezero]; exact nxt
   ·have ec:cur K = v:=by unfold cur; rw [e]; simp
    rw [ec] at nxt
    rw [e] at nxt ⊢
    have hlen:(L++[v]).length = L.length+1:=by simp
    rw [e,hlen] at hop
    rw [if_pos (by rw [hlen]; omega)]
    refine ⟨by rw [hlen]; constructor <;> omega,by rw [hlen]; omega,v,Va _ _,by omega,0,eget,by omega,_,hg,?_⟩
    rw [eset]; exact nxt
  rcases X3a (X4 K) with e | ⟨L,v,e⟩
  ·have hR:R≠nil:=by
    rcases hnf with q | q | ⟨S,v,K',rfl⟩
    ·exact q
    ·subst q
     rintro rfl
     have:=congrArg List.length hI.c
     simp [remM,Zl] at this; omega
    ·simp [X4] at e
   have:=fin hR
   rw [e] at this ⊢
   rw [if_neg (by simp)]
   exact this
  ·have hlen:(X4 K).length = L.length+1:=by rw [e]; simp
   rw [if_pos (by omega)]
   obtain ⟨h0,nd,h1,h2⟩:=EndOK_last K _ R hI.e e
   have hvl:v.toNat < (Zl F).length:=(List.getElem?_eq_some_iff.1 h1).1
   have hsz:nd.Size≤1000001:=by
    have hm:=List.mem_of_getElem? h1
    have:∀ (G:Fo),∀ nd∈Zl G,nd.Size≤(Zl G).length:=by
     intro G
     induction G with
     | nil=>intro nd h; cases h
     | text x cs r ih=>
      intro nd h
      rcases List.mem_cons.1 h with rfl | h
      ·simp [Zl]; omega
      ·have:=ih nd h; simp [Zl]; omega
     | node o k c r ih1 ih2=>
      intro nd h
      rcases List.mem_cons.1 h with rfl | h
      ·simp [Zl]; omega
      ·rcases List.mem_append.1 h with h | h
       ·have:=ih1 nd h; simp [Zl]; omega
       ·have:=ih2 nd h; simp [Zl]; omega
    have:=this F nd hm
    omega
   have hs0:0≤nd.Size:=by
    have hm:=List.mem_of_getElem? h1
    have:∀ (G:Fo),∀ nd∈Zl G,0≤nd.Size:=by
     intro G
     induction G with
     | nil=>intro nd h; cases h
     | text x cs r ih=>
      intro nd h
      rcases List.mem_cons.1 h with rfl | h
      ·simp
      ·exact ih nd h
     | node o k c r ih1 ih2=>
      intro nd h
      rcases List.mem_cons.1 h with rfl | h
      ·simp; omega
      ·rcases List.mem_append.1 h with h | h
       ·exact ih1 nd h
       ·exact ih2 nd h
    exact this F nd hm
   refine ⟨by constructor <;> omega,by omega,v,by rw [e]; exact Va _ _,by constructor <;> omega,h0,nd,h1,by constructor <;> omega,?_⟩
   by_cases hz:v+nd.Size≤(i:Int)
   ·rw [if_pos hz]
    have hR:R = nil:=Yrb (by omega)
    subst hR
    obtain ⟨S,v',K',rfl⟩:∃ S v' K',K = (S,some v') :: K':=by
     rcases hnf with q | rfl | q
     ·exact absurd rfl q
     ·simp [X4] at e
     ·exact q
    have ht:(X4 ((S,some v') :: K')).take ((((X4 ((S,some v') :: K')).length:Int) - 1).toNat) = X4 K':=by
     simp only [X4,Option.toList_some]; exact Ygb _ _
    rw [ht]
    have H2:OwI F i ds S K':=⟨by
     have:=hI.a
     simp only [remO,ownF,List.nil_append,Zl,List.length_nil,Int.natCast_zero,Int.add_zero] at this
     exact this,hI.l,hI.c,by have:=hI.e.2; simpa [Zl] using this⟩
    obtain ⟨R2,K2,g1,g2,g3⟩:=H2.norm K' S
    have hol:(X4 K').length+1 = (X4 ((S,some v') :: K')).length:=by simp [X4]
    refine ⟨by constructor <;> omega,⟨by omega,by omega⟩,hM _ ⟨R2,K2,g3.symm,g1,g2,by rw [g3]; omega⟩ (by rw [← hol]; omega)⟩
   ·rw [if_neg hz]
    have hR:R≠nil:=by
     rintro rfl
     rcases hnf with q | rfl | ⟨S,v',K',rfl⟩
     ·exact q rfl
     ·simp [X4] at e
     ·simp only [X4,Option.toList_some] at e
      obtain ⟨_,e2⟩:=List.append_inj' e rfl
      cases e2
      obtain ⟨_,nd',g1,g2⟩:=hI.e.1 v rfl
      rw [h1] at g1; cases g1
      simp [Zl] at g2
      omega
    exact fin hR
 ·rw [if_neg (by omega)]
  have:i = (Zl F).length:=by omega
  subst this
  have hc:=congrArg List.length hI.c
  have ha:=hI.a
  rw [List.drop_length] at hc
  have hz:remO ((Zl F).length:Int) R K = []:=List.length_eq_zero_iff.1 (by rw [remO_len,← hc]; rfl)
  rw [hz,List.append_nil] at ha
  rw [ha]; simpa using h
end Go.Proofs.YtpkhmfedaaoalaaGreatDoor
namespace Go.Proofs.YtpkhmfedaaoalaaGreatDoor
open Go Go.Proofs.YtpkhmfedaaoalaaGreatDoor.AM Fo
def keptT:List Int→Int→Prop
 | [],_=>True
 | c :: cs,b=>(isW c = true→b≠0∧b≠32)∧keptT cs (if isW c then 32 else c)
def endT2:List Int→Int→Int
 | [],b=>b
 | c :: cs,b=>endT2 cs (if isW c then 32 else c)
theorem Vna:∀ (cs:List Int) (b:Int),(sqT cs b).1.length≤cs.length
 | [],_=>Nat.le_refl _
 | c :: cs,b=>by
  unfold sqT
  split
  ·split
   ·have:=Vna cs b; simp; omega
   ·have:=Vna cs 32; simp; omega
  ·have:=Vna cs c; simp; omega
theorem sqT_kept:∀ (cs:List Int) (b:Int),(sqT cs b).1.length = cs.length→keptT cs b∧(sqT cs b).2 = endT2 cs b
 | [],b,_=>⟨trivial,rfl⟩
 | c :: cs,b,h=>by
  unfold sqT at h ⊢
  unfold keptT endT2
  by_cases hw:isW c = true
  ·rw [if_pos hw] at h ⊢
   by_cases hb:b = 0∨b = 32
   ·rw [if_pos hb] at h
    have:=Vna cs b; simp at h; omega
   ·rw [if_neg hb] at h ⊢
    have h':(sqT cs 32).1.length = cs.length:=by simpa using h
    obtain ⟨h1,h2⟩:=sqT_kept cs 32 h'
    rw [if_pos hw]
    exact ⟨⟨fun _=>⟨fun q=>hb (.inl q),fun q=>hb (.inr q)⟩,h1⟩,h2⟩
  ·rw [if_neg hw] at h ⊢
   have h':(sqT cs c).1.length = cs.length:=by simpa using h
   obtain ⟨h1,h2⟩:=sqT_kept cs c h'
   rw [if_neg hw]
   exact ⟨⟨fun q=>absurd q hw,h1⟩,h2⟩
theorem sqT_last:∀ (cs:List Int) (b:Int),(sqT cs b).1≠[]→(sqT cs b).1.getLast? = some (sqT cs b).2
 | [],b,h=>absurd rfl h
 | c :: cs,b,h=>by
  have key:∀ b' (x:Int),(x :: (sqT cs b').1).getLast? = some (if (sqT cs b').1 = [] then x else (sqT cs b').2):=by
   intro b' x
   by_cases e:(sqT cs b').1 = []
   ·rw [if_pos e,e]; rfl
   ·rw [if_neg e]
    have:=sqT_last cs b' e
    rw [List.getLast?_cons,this]; rfl
  have nilb:∀ b',(sqT cs b').1 = []→(sqT cs b').2 = b':=by
   intro b' hb'
   have:∀ (cs:List Int) (b:Int),(sqT cs b).1 = []→(sqT cs b).2 = b:=by
    intro cs
    induction cs with
    | nil=>intros; rfl
    | cons c cs ih=>
     intro b h
     unfold sqT at h ⊢
     split
     ·rename_i hw
      rw [if_pos hw] at h
      split
      ·rename_i hb; rw [if_pos hb] at h; exact ih b h
      ·rename_i hb; rw [if_neg hb] at h; cases h
     ·rename_i hw; rw [if_neg hw] at h; cases h
   exact this cs b' hb'
  unfold sqT at h ⊢
  split
  ·rename_i hw
   rw [if_pos hw] at h
   split
   ·rename_i hb; rw [if_pos hb] at h; exact sqT_last cs b h
   ·rename_i hb
    rw [key]; congr 1
    split
    ·rename_i e; exact (nilb 32 e).symm
    ·rfl
  ·rename_i hw
   rw [key]; congr 1
   split
   ·rename_i e; exact (nilb c e).symm
   ·rfl
def prs:List Za→List Int→List (Int×Int)
 | x :: xs,o :: os=>(if x.Kind = 46 then (Zd x.Text).map (fun c=>(o,c)) else [])++prs xs os
 | _,_=>[]
def Zyb:List (Int×Int)→(Int→Int)→Prop
 | [],_=>True
 | p :: P,β=>(isW p.2 = true→β p.1≠0∧β p.1≠32)∧Zyb P (fun q=>if q = p.1 then (if isW p.2 then 32 else p.2) else β q)
def V7a:List (Int×Int)→(Int→Int)→Int→Int
 | [],β=>β
 | p :: P,β=>V7a P (fun q=>if q = p.1 then (if isW p.2 then 32 else p.2) else β q)
theorem Jza:∀ (P R:List (Int×Int)) (β:Int→Int),Zyb P β→Zyb R (V7a P β)→Zyb (P++R) β
 | [],R,β,_,h=>h
 | p :: P,R,β,h1,h2=>⟨h1.1,Jza P R _ h1.2 h2⟩
theorem Xjb:∀ (P R:List (Int×Int)) (β:Int→Int),V7a (P++R) β = V7a R (V7a P β)
 | [],R,β=>rfl
 | p :: P,R,β=>Xjb P R _
theorem kept_text (o:Int):∀ (cs:List Int) (β:Int→Int),keptT cs (β o)→Zyb (cs.map fun c=>(o,c)) β∧V7a (cs.map fun c=>(o,c)) β = fun q=>if q = o then endT2 cs (β o) else β q
 | [],β,_=>⟨trivial,by funext q; simp only [List.map_nil,V7a,endT2]; split <;> simp_all⟩
 | c :: cs,β,h=>by
  obtain ⟨h1,h2⟩:=kept_text o cs (fun q=>if q = o then (if isW c then 32 else c) else β q) (by simpa using h.2)
  refine ⟨⟨h.1,h1⟩,?_⟩
  simp only [List.map_cons,V7a]
  rw [h2]
  funext q
  by_cases e:q = o <;> simp [e,endT2]
def tlen (t:List Za):Nat:=(t.map fun x=>x.Text.size).sum
theorem Y7 (a b:List Za):tlen (a++b) = tlen a+tlen b:=by simp [tlen]
theorem Yv (x:Za) (t:List Za):tlen (x :: t) = x.Text.size+tlen t:=by simp [tlen]
def Wza (m:Jua) (o:Int):Int:=((aget m o).getD (0,0)).1
theorem Kga {α β:Type} [DecidableEq α]:∀ (m:List (α×β)) (x y:α) (v:β),aget (aset m x v) y = if y = x then some v else aget m y
 | [],x,y,v=>by simp [aset,aget]
 | p :: m,x,y,v=>by
  unfold aset
  by_cases e:x = p.1
  ·rw [if_pos e]
   simp only [aget]
   by_cases e2:y = x
   ·simp [e2]
   ·rw [if_neg e2,if_neg e2,if_neg (by rw [← e]; exact e2)]
  ·rw [if_neg e]
   simp only [aget]
   rw [Kga m x y v]
   by_cases e2:y = x
   ·subst e2; simp [e]
   ·by_cases e3:y = p.1
    ·rw [if_pos e3,if_neg e2,if_pos e3]
    ·rw [if_neg e3,if_neg e2,if_neg e2,if_neg e3]
theorem aset_mem {α β:Type} [DecidableEq α]:∀ (m:List (α×β)) (x:α) (v:β) {p:α×β},p∈aset m x v→p∈m∨p = (x,v)
 | [],x,v,p,h=>by simp [aset] at h; exact .inr h
 | q :: m,x,v,p,h=>by
  unfold aset at h
  split at h
  ·rcases List.mem_cons.1 h with h | h
   ·exact .inr h
   ·exact .inl (List.mem_cons_of_mem _ h)
  ·rcases List.mem_cons.1 h with h | h
   ·exact .inl (by rw [h]; exact List.mem_cons_self)
   ·rcases aset_mem m x v h with h | h
    ·exact .inl (List.mem_cons_of_mem _ h)
    ·exact .inr h
theorem aget_mem {α β:Type} [DecidableEq α]:∀ (m:List (α×β)) (x:α) {v:β},aget m x = some v→(x,v)∈m
 | [],x,v,h=>by cases h
 | p :: m,x,v,h=>by
  unfold aget at h
  split at h
  ·rename_i e; cases h; subst e; exact List.mem_cons_self
  ·exact List.mem_cons_of_mem _ (aget_mem m x h)
theorem byte_aset (m:Jua) (o:Int) (v:Int×Int):Wza (aset m o v) = fun q=>if q = o then v.1 else Wza m q:=by
 funext q
 unfold Wza
 rw [Kga]
 split <;> rfl
theorem sqN_size (x:Za) (i:Int) (f:Int×Int):(sqN x i f).1.Text.size = (sqT (Zd x.Text) f.1).1.length:=by simp [sqN,Wu]
theorem sqL_len:∀ (xs:List Za) (os:List Int) (i:Int) (m:Jua),(sqL xs os i m).1.length = xs.length
 | [],_,_,_=>rfl
 | x :: xs,[],_,_=>rfl
 | x :: xs,o :: os,i,m=>by
  unfold sqL
  split
  ·simp [sqL_len xs os]
  ·simp [sqL_len xs os]
theorem Yhb:∀ (xs:List Za) (os:List Int) (i:Int) (m:Jua),tlen (sqL xs os i m).1≤tlen xs
 | [],_,_,_=>Nat.le_refl _
 | x :: xs,[],_,_=>Nat.le_refl _
 | x :: xs,o :: os,i,m=>by
  unfold sqL
  split
  ·rw [Yv,Yv,sqN_size]
   have:=Yhb xs os (i+1) (aset m o (sqN x i ((aget m o).getD (0,0))).2)
   have:=Vna (Zd x.Text) ((aget m o).getD (0,0)).1
   rw [Zt] at this; omega
  ·rw [Yv,Yv]
   have:=Yhb xs os (i+1) m; omega
theorem endT2_nil {cs:List Int} {b:Int} (h:keptT cs b) (hn:(sqT cs b).1 = []) (hl:(sqT cs b).1.length = cs.length):cs = []:=by
 rw [hn] at hl; exact List.length_eq_zero_iff.1 hl.symm
theorem sqL_kept:∀ (xs:List Za) (os:List Int) (i:Int) (m:Jua),xs.length = os.length→tlen (sqL xs os i m).1 = tlen xs→Zyb (prs xs os) (Wza m)∧Wza (sqL xs os i m).2 = V7a (prs xs os) (Wza m)
 | [],os,_,m,_,_=>by cases os <;> exact ⟨trivial,rfl⟩
 | x :: xs,[],_,_,h,_=>by simp at h
 | x :: xs,o :: os,i,m,hl,h=>by
  unfold sqL at h ⊢
  unfold prs
  by_cases hk:x.Kind = 46
  ·rw [if_pos hk] at h ⊢
   rw [if_pos hk]
   dsimp only at h ⊢
   rw [Yv,Yv,sqN_size] at h
   have h1:=Yhb xs os (i+1) (aset m o (sqN x i ((aget m o).getD (0,0))).2)
   have h2:=Vna (Zd x.Text) ((aget m o).getD (0,0)).1
   rw [Zt] at h2
   have e1:(sqT (Zd x.Text) ((aget m o).getD (0,0)).1).1.length = (Zd x.Text).length:=by rw [Zt]; omega
   obtain ⟨k1,k2⟩:=sqT_kept _ _ e1
   obtain ⟨g1,g2⟩:=kept_text o (Zd x.Text) (Wza m) k1
   obtain ⟨f1,f2⟩:=sqL_kept xs os (i+1) (aset m o (sqN x i ((aget m o).getD (0,0))).2) (by simpa using hl) (by omega)
   have eb:Wza (aset m o (sqN x i ((aget m o).getD (0,0))).2) = V7a ((Zd x.Text).map fun c=>(o,c)) (Wza m):=by
    rw [byte_aset,g2]
    funext q
    split
    ·unfold sqN
     dsimp only
     split
     ·rename_i hn
      have:=endT2_nil k1 hn e1
      rw [this]; rfl
     ·exact k2
    ·rfl
   rw [eb] at f1 f2
   exact ⟨Jza _ _ _ g1 f1,by rw [f2,Xjb]⟩
  ·rw [if_neg hk] at h ⊢
   rw [if_neg hk]
   dsimp only at h ⊢
   rw [Yv,Yv] at h
   obtain ⟨f1,f2⟩:=sqL_kept xs os (i+1) m (by simpa using hl) (by omega)
   exact ⟨f1,f2⟩
theorem sqL_space:∀ (xs:List Za) (os:List Int) (i:Int) (m:Jua) (p:Int×(Int×Int)),p∈(sqL xs os i m).2→p.2.1 = 32→p∈m∨∃ k x,p.2.2 = i+(k:Nat)∧(sqL xs os i m).1[k]? = some x∧(Zd x.Text).getLast? = some 32
 | [],_,_,m,p,h,_=>.inl h
 | x :: xs,[],_,_,p,h,_=>.inl h
 | x :: xs,o :: os,i,m,p,h,hp=>by
  unfold sqL at h ⊢
  by_cases hk:x.Kind = 46
  ·rw [if_pos hk] at h ⊢
   dsimp only at h ⊢
   rcases sqL_space xs os (i+1) _ p h hp with h | ⟨k,y,h1,h2,h3⟩
   ·rcases aset_mem m o _ h with h | h
    ·exact .inl h
    ·unfold sqN at h
     dsimp only at h
     split at h
     ·cases e:aget m o with
      | none=>rw [e] at h; rw [h] at hp; simp at hp
      | some v=>rw [e] at h; rw [h]; exact .inl (aget_mem m o e)
     ·rename_i hne
      right
      refine ⟨0,_,by rw [h]; simp,rfl,?_⟩
      have hl:=sqT_last _ _ hne
      rw [h] at hp
      dsimp only at hp
      rw [hp] at hl
      unfold sqN
      dsimp only
      rw [Vma]
      ·exact hl
      ·have:∀ (cs:List Int) (b:Int),(∀ c∈cs,Byte c)→∀ c∈(sqT cs b).1,Byte c:=by
        intro cs
        induction cs with
        | nil=>intro b _ c hc; cases hc
        | cons d cs ih=>
         intro b hb c hc
         have hb':∀ c∈cs,Byte c:=fun c hc=>hb c (List.mem_cons_of_mem _ hc)
         unfold sqT at hc
         split at hc
         ·split at hc
          ·exact ih b hb' c hc
          ·rcases List.mem_cons.1 hc with rfl | hc
           ·exact ⟨by omega,by omega⟩
           ·exact ih 32 hb' c hc
         ·rcases List.mem_cons.1 hc with rfl | hc
          ·exact hb _ List.mem_cons_self
          ·exact ih d hb' c hc
       exact this _ _ fun c hc=>strInts_byte hc
   ·exact .inr ⟨k+1,y,by rw [h1]; simp; omega,by simpa using h2,h3⟩
  ·rw [if_neg hk] at h ⊢
   dsimp only at h ⊢
   rcases sqL_space xs os (i+1) m p h hp with h | ⟨k,y,h1,h2,h3⟩
   ·exact .inl h
   ·exact .inr ⟨k+1,y,by rw [h1]; simp; omega,by simpa using h2,h3⟩
theorem trimS_le (s:ByteArray):(trimS s).size≤s.size:=by
 unfold trimS
 split
 ·rw [Wu,List.length_dropLast,Zt]; omega
 ·exact Nat.le_refl _
theorem trimS_lt {s:ByteArray} (h:(Zd s).getLast? = some 32):(trimS s).size < s.size:=by
 unfold trimS
 rw [if_pos h,Wu,List.length_dropLast,Zt]
 have:Zd s≠[]:=by intro e; rw [e] at h; cases h
 have:=List.length_pos_iff.2 this
 rw [Zt] at this; omega
theorem sqFin_le (m:Jua) (i:Int) (x:Za):(sqFin m i x).Text.size≤x.Text.size:=by
 unfold sqFin
 split
 ·exact trimS_le _
 ·exact Nat.le_refl _
theorem K1a (m:Jua):∀ (xs:List Za) (i:Int),tlen (Zpb m xs i)≤tlen xs
 | [],_=>Nat.le_refl _
 | x :: xs,i=>by
  unfold Zpb
  rw [Yv,Yv]
  have:=K1a m xs (i+1); have:=sqFin_le m i x; omega
theorem sqEnd_eq (m:Jua):∀ (xs:List Za) (i:Int),tlen (Zpb m xs i) = tlen xs→∀ k x,xs[k]? = some x→(Zd x.Text).getLast? = some 32→¬ ∃ p∈m,p.2.1 = 32∧p.2.2 = i+(k:Nat)
 | [],_,_,k,x,hx,_=>by simp at hx
 | y :: xs,i,h,k,x,hx,hl=>by
  unfold Zpb at h
  rw [Yv,Yv] at h
  have h1:=K1a m xs (i+1)
  have h2:=sqFin_le m i y
  rintro ⟨p,hp,e1,e2⟩
  cases k with
  | zero=>
   cases hx
   have e3:(sqFin m i y).Text.size = y.Text.size:=by omega
   unfold sqFin at e3
   rw [if_pos (List.any_eq_true.2 ⟨p,hp,by simp [e1,e2]⟩)] at e3
   have:=trimS_lt hl
   dsimp only at e3; omega
  | succ k=>
   exact sqEnd_eq m xs (i+1) (by omega) k x (by simpa using hx) hl ⟨p,hp,e1,by rw [e2]; simp; omega⟩
def okF:List Int→Int→Prop
 | [],b=>b≠32
 | c :: cs,b=>(isW c = true→b≠0∧b≠32)∧okF cs (if isW c then 32 else c)
def ofFlow (o:Int) (P:List (Int×Int)):List Int:=(P.filter fun p=>decide (p.1 = o)).map (·.2)
theorem okF_of (o:Int):∀ (P:List (Int×Int)) (β:Int→Int),Zyb P β→V7a P β o≠32→okF (ofFlow o P) (β o)
 | [],β,_,h=>h
 | p :: P,β,h1,h2=>by
  have:=okF_of o P _ h1.2 h2
  unfold ofFlow at this ⊢
  by_cases e:p.1 = o
  ·rw [List.filter_cons_of_pos (by simpa using e)]
   refine ⟨by rw [← e]; exact h1.1,?_⟩
   rw [if_pos e.symm] at this; exact this
  ·rw [List.filter_cons_of_neg (by simpa using e)]
   rw [if_neg (fun q=>e q.symm)] at this; exact this
theorem squeezed_flows {t:List Za} {ow:List Int} (hl:t.length = ow.length) (h:tlen (Wg t ow) = tlen t) (o:Int):okF (ofFlow o (prs t ow)) 0:=by
 unfold Wg at h
 have h1:=Yhb t ow 0 []
 have h2:=K1a (sqL t ow 0 []).2 (sqL t ow 0 []).1 0
 obtain ⟨k1,k2⟩:=sqL_kept t ow 0 [] hl (by omega)
 have e0:Wza [] = fun _=>0:=rfl
 refine okF_of o (prs t ow) (Wza []) k1 ?_
 rw [← k2]
 intro hb
 unfold Wza at hb
 cases e:aget (sqL t ow 0 []).2 o with
 | none=>rw [e] at hb; simp at hb
 | some v=>
  rw [e] at hb
  have hm:=aget_mem _ _ e
  rcases sqL_space t ow 0 [] _ hm hb with h | ⟨k,x,g1,g2,g3⟩
  ·cases h
  ·exact sqEnd_eq _ _ 0 (by omega) k x g2 g3 ⟨_,hm,hb,g1⟩
end Go.Proofs.YtpkhmfedaaoalaaGreatDoor
