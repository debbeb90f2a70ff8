/- ItemsGlues: a part of its proof (packed by a program). -/
import Derived.Test.YtpkhmfedaaoalaaGreatDoorWA0
import Derived.Test.YtpkhmfedaaoalaaGreatDoorWA1
import Derived.Test.YtpkhmfedaaoalaaGreatDoorWA2
import Derived.Test.YtpkhmfedaaoalaaGreatDoorWA3
import Derived.Test.YtpkhmfedaaoalaaGreatDoorWA4
import Derived.Test.YtpkhmfedaaoalaaGreatDoorWA5
import Derived.Test.YtpkhmfedaaoalaaGreatDoorWA6
import Derived.Test.YtpkhmfedaaoalaaGreatDoorWA7
import Derived.Test.YtpkhmfedaaoalaaGreatDoorWA8
import Derived.Test.YtpkhmfedaaoalaaGreatDoorWA9
import Derived.Test.YtpkhmfedaaoalaaGreatDoorWA10
import Derived.Test.YtpkhmfedaaoalaaGreatDoorWA11
import Derived.Test.YtpkhmfedaaoalaaGreatDoorWA12
import Derived.Test.YtpkhmfedaaoalaaGreatDoorWA13
import Derived.Test.YtpkhmfedaaoalaaGreatDoorWA15
import Derived.Test.YtpkhmfedaaoalaaGreatDoorWA16
import Derived.Test.YtpkhmfedaaoalaaGreatDoorWA19
import Derived.Test.YtpkhmfedaaoalaaGreatDoorItx
import Derived.Laws.RangeAny
set_option linter.all false
namespace Go.Proofs.YtpkhmfedaaoalaaGreatDoor
open Go Go.Proofs.YtpkhmfedaaoalaaGreatDoor.AM
def isC (c:Int):Bool:=decide (cls c≠0) && decide (cls c≠6)
theorem Is_w {c:Int} (hc:Byte c) {Q:Bool→Prop} (h:Q (isC c)):Zya.w c Q:=by
 unfold Zya.w
 refine Class_w hc ?_
 unfold isC at h
 split
 ·rename_i e; simpa [e] using h
 ·rename_i e; simpa [e] using h
theorem Zib {σ:Type} {body:σ→(σ→Prop)→Prop} {s0:σ} (inv:σ→Prop) (μ:σ→Nat) (h0:inv s0) (hs:∀ s,inv s→∀ K:σ→Prop,(∀ s',inv s'→μ s' < μ s→K s')→body s K):X2 body s0:=
 ⟨inv,μ,h0,fun s hi=>hs s hi _ fun s' h1 h2=>⟨h1,h2⟩⟩
theorem Va {α:Type} (l:List α) (x:α):(l++[x])[(((l++[x]).length:Int) - 1).toNat]? = some x:=by
 have:(((l++[x]).length:Int) - 1).toNat = l.length:=by simp
 rw [this]; simp
theorem Ygb {α:Type} (l:List α) (x:α):(l++[x]).take ((((l++[x]).length:Int) - 1).toNat) = l:=by
 have:(((l++[x]).length:Int) - 1).toNat = l.length:=by simp
 rw [this]; simp
theorem Ylb {α:Type} (l:List α) (x y:α):(l++[x]).set ((((l++[x]).length:Int) - 1).toNat) y = l++[y]:=by
 have:(((l++[x]).length:Int) - 1).toNat = l.length:=by simp
 rw [this]; simp [List.set_append]
end Go.Proofs.YtpkhmfedaaoalaaGreatDoor
namespace Go.Proofs.YtpkhmfedaaoalaaGreatDoor
open Go Go.Proofs.YtpkhmfedaaoalaaGreatDoor.AM
inductive Fo
 | nil
 | text (x:Ze) (cs:List Ze) (r:Fo)
 | node (o:Ze) (k:Fo) (c:Ze) (r:Fo)
namespace Fo
def toks:Fo→List Ze
 | nil=>[]
 | text x cs r=>x :: (cs++toks r)
 | node o k c r=>o :: (toks k++c :: toks r)
def str (l:List Ze):ByteArray:=Yg (l.map (·.Ch))
def Zl:Fo→List Za
 | nil=>[]
 | text x cs r=>⟨46,str (x :: cs),x.At,1⟩ :: Zl r
 | node o k c r=>⟨o.Ch,⟨#[]⟩,o.At,((Zl k).length:Int)+1⟩ :: (Zl k++Zl r)
def headT:Fo→Bool
 | text _ _ _=>true
 | _=>false
def isNil:Fo→Bool
 | nil=>true
 | _=>false
def endT:Fo→Bool
 | nil=>false
 | text _ _ r=>isNil r || endT r
 | node _ _ _ r=>endT r
def push:Fo→Ze→Fo
 | nil,x=>text x [] nil
 | text y cs r,x=>if isNil r then text y (cs++[x]) nil else text y cs (push r x)
 | node o k c r,x=>node o k c (push r x)
def app:Fo→Fo→Fo
 | nil,b=>b
 | text x cs r,b=>text x cs (app r b)
 | node o k c r,b=>node o k c (app r b)
def ok:Fo→Prop
 | nil=>True
 | text x cs r=>x.Kind = 1∧(∀ y∈cs,y.Kind = 1)∧headT r = false∧ok r
 | node o k c r=>o.Kind = 2∧c.Kind = 3∧c.Ch = o.Ch∧ok k∧ok r
theorem isNil_eq {f:Fo} (h:isNil f = true):f = nil:=by cases f <;> first | rfl | cases h
theorem str_append (a b:List Ze):str (a++b) = str a++str b:=by unfold str; rw [List.map_append,ofBytes_append]
theorem str_size (l:List Ze):(str l).size = l.length:=by unfold str; rw [Wu]; simp
theorem toks_push:∀ (f:Fo) (x:Ze),toks (push f x) = toks f++[x]
 | nil,x=>rfl
 | text y cs r,x=>by
  unfold push
  split
  ·rename_i e; rw [isNil_eq e]; simp [toks]
  ·simp [toks,toks_push r x]
 | node o k c r,x=>by simp [push,toks,toks_push r x]
theorem toks_app:∀ (f g:Fo),toks (app f g) = toks f++toks g
 | nil,g=>rfl
 | text y cs r,g=>by simp [app,toks,toks_app r g]
 | node o k c r,g=>by simp [app,toks,toks_app r g]
theorem nodes_app:∀ (f g:Fo),Zl (app f g) = Zl f++Zl g
 | nil,g=>rfl
 | text y cs r,g=>by simp [app,Zl,nodes_app r g]
 | node o k c r,g=>by simp [app,Zl,nodes_app r g]
theorem empty_app (s:ByteArray):(⟨#[]⟩:ByteArray)++s = s:=by simp [ByteArray.ext_iff]
theorem Vua:∀ (f:Fo) (x:Ze),endT f = false→Zl (push f x) = Zl f++[⟨46,str [x],x.At,1⟩]
 | nil,x,_=>rfl
 | text y cs r,x,h=>by
  simp only [endT,Bool.or_eq_false_iff] at h
  unfold push
  rw [h.1]
  simp [Zl,Vua r x h.2]
 | node o k c r,x,h=>by
  simp only [endT] at h
  simp [push,Zl,Vua r x h]
theorem Vta:∀ (f:Fo) (x:Ze),endT f = true→∃ ns t a,Zl f = ns++[⟨46,t,a,1⟩]∧Zl (push f x) = ns++[⟨46,t++str [x],a,1⟩]
 | nil,x,h=>by cases h
 | text y cs r,x,h=>by
  simp only [endT,Bool.or_eq_true] at h
  unfold push
  cases e:isNil r with
  | true=>
   rw [isNil_eq e]
   exact ⟨[],str (y :: cs),y.At,rfl,by simp [Zl,← str_append]⟩
  | false=>
   rw [e] at h
   obtain ⟨ns,t,a,h1,h2⟩:=Vta r x (by simpa using h)
   exact ⟨_ :: ns,t,a,by simp only [Zl,h1]; rfl,by simp only [Zl,h2,Bool.false_eq_true,if_false]; rfl⟩
 | node o k c r,x,h=>by
  simp only [endT] at h
  obtain ⟨ns,t,a,h1,h2⟩:=Vta r x h
  exact ⟨⟨o.Ch,⟨#[]⟩,o.At,((Zl k).length:Int)+1⟩ :: (Zl k++ns),t,a,by simp only [Zl,h1]; simp,by simp only [push,Zl,h2]; simp⟩
theorem endT_push:∀ (f:Fo) (x:Ze),endT (push f x) = true
 | nil,x=>rfl
 | text y cs r,x=>by
  unfold push
  split
  ·rfl
  ·simp [endT,endT_push r x]
 | node o k c r,x=>by simp [push,endT,endT_push r x]
theorem endT_app:∀ (f:Fo) (o c:Ze) (k:Fo),endT (app f (node o k c nil)) = false
 | nil,_,_,_=>rfl
 | text y cs r,o,c,k=>by
  have:isNil (app r (node o k c nil)) = false:=by cases r <;> rfl
  simp [app,endT,this,endT_app r]
 | node _ _ _ r,o,c,k=>by simp [app,endT,endT_app r]
theorem ok_push:∀ (f:Fo) (x:Ze),x.Kind = 1→ok f→ok (push f x)
 | nil,x,hx,_=>⟨hx,by simp,rfl,trivial⟩
 | text y cs r,x,hx,h=>by
  obtain ⟨h1,h2,h3,h4⟩:=h
  unfold push
  split
  ·refine ⟨h1,fun z hz=>?_,rfl,trivial⟩
   rcases List.mem_append.1 hz with hz | hz
   ·exact h2 z hz
   ·simp at hz; rw [hz]; exact hx
  ·rename_i e
   refine ⟨h1,h2,?_,ok_push r x hx h4⟩
   cases r with
   | nil=>exact absurd rfl e
   | text _ _ _=>cases h3
   | node _ _ _ _=>rfl
 | node o k c r,x,hx,h=>⟨h.1,h.2.1,h.2.2.1,h.2.2.2.1,ok_push r x hx h.2.2.2.2⟩
theorem ok_app:∀ (f:Fo) (o c:Ze) (k:Fo),ok f→ok (node o k c nil)→ok (app f (node o k c nil))
 | nil,_,_,_,_,h=>h
 | text y cs r,o,c,k,h,hn=>⟨h.1,h.2.1,by cases r <;> first | rfl | exact h.2.2.1,ok_app r o c k h.2.2.2 hn⟩
 | node _ _ _ r,o,c,k,h,hn=>⟨h.1,h.2.1,h.2.2.1,h.2.2.2.1,ok_app r o c k h.2.2.2.2 hn⟩
theorem Yra:∀ (f:Fo),(Zl f).length≤(toks f).length
 | nil=>Nat.le_refl _
 | text x cs r=>by have:=Yra r; simp [Zl,toks]; omega
 | node o k c r=>by have:=Yra r; have:=Yra k; simp [Zl,toks]; omega
theorem text_le:∀ (f:Fo),∀ nd∈Zl f,nd.Text.size≤(toks f).length
 | nil,nd,h=>by cases h
 | text x cs r,nd,h=>by
  rcases List.mem_cons.1 h with rfl | h
  ·rw [str_size]; simp [toks]; try omega
  ·have:=text_le r nd h; simp [toks]; omega
 | node o k c r,nd,h=>by
  rcases List.mem_cons.1 h with rfl | h
  ·exact Nat.zero_le _
  ·rcases List.mem_append.1 h with h | h
   ·have:=text_le k nd h; simp [toks]; omega
   ·have:=text_le r nd h; simp [toks]; omega
end Fo
open Fo
abbrev Xya:=List (Fo×Ze)
def ftoks:Xya→List Ze
 | []=>[]
 | (f,o) :: s=>ftoks s++toks f++[o]
def V9:Xya→List Za
 | []=>[]
 | (f,o) :: s=>V9 s++Zl f++[⟨o.Ch,⟨#[]⟩,o.At,1⟩]
def frow:Xya→List Zv
 | []=>[]
 | (f,o) :: s=>frow s++[⟨o,((V9 s++Zl f).length:Int)⟩]
def fok:Xya→Prop
 | []=>True
 | (f,o) :: s=>ok f∧o.Kind = 2∧fok s
theorem fnodes_le:∀ s:Xya,(V9 s).length≤(ftoks s).length
 | []=>Nat.le_refl _
 | (f,o) :: s=>by have:=fnodes_le s; have:=Yra f; simp [V9,ftoks]; try omega
theorem frow_le:∀ s:Xya,(frow s).length≤(ftoks s).length
 | []=>Nat.le_refl _
 | (f,o) :: s=>by have:=frow_le s; simp [frow,ftoks]; try omega
def step (st:Xya×Fo) (x:Ze):Option (Xya×Fo):=
 if x.Kind = 1 then some (st.1,push st.2 x)
 else if x.Kind = 2 then some ((st.2,x) :: st.1,nil)
 else if x.Kind = 3 then match st.1 with
  | []=>none
  | (g,o) :: s=>if o.Ch = x.Ch then some (s,app g (node o st.2 x nil)) else none
 else none
def parse (l:List Ze):Option (Xya×Fo):=l.foldlM step ([],nil)
theorem step_ok {st st':Xya×Fo} {x:Ze} (h:step st x = some st'):ftoks st'.1++toks st'.2 = ftoks st.1++toks st.2++[x]∧(fok st.1→ok st.2→fok st'.1∧ok st'.2):=by
 obtain ⟨s,f⟩:=st
 unfold step at h
 split at h
 ·rename_i e; cases h
  exact ⟨by simp [toks_push],fun h1 h2=>⟨h1,ok_push f x e h2⟩⟩
 split at h
 ·rename_i e; cases h
  exact ⟨by simp [ftoks,toks],fun h1 h2=>⟨⟨h2,e,h1⟩,trivial⟩⟩
 split at h
 ·rename_i e
  split at h
  ·cases h
  ·rename_i g o s' hs
   dsimp only at hs; subst hs
   split at h
   ·rename_i e2; cases h
    exact ⟨by simp [ftoks,toks_app,toks],fun h1 h2=>⟨h1.2.2,ok_app g o x f h1.1 ⟨h1.2.1,e,e2.symm,h2,trivial⟩⟩⟩
   ·cases h
 ·cases h
theorem parse_snoc (l:List Ze) (x:Ze):parse (l++[x]) = (parse l).bind fun st=>step st x:=by
 unfold parse; rw [List.foldlM_append]
 cases List.foldlM step ([],nil) l with
 | none=>rfl
 | some st=>simp
theorem parse_none {l:List Ze} {n:Nat} (h:parse (l.take n) = none):parse l = none:=by
 have:l = l.take n++l.drop n:=(List.take_append_drop n l).symm
 rw [this]; unfold parse at h ⊢; rw [List.foldlM_append,h]; rfl
theorem parse_ok:∀ {l:List Ze} {st:Xya×Fo},parse l = some st→ftoks st.1++toks st.2 = l∧fok st.1∧ok st.2:=by
 intro l
 induction h:l.length generalizing l with
 | zero=>
  intro st hp
  have:l = []:=List.length_eq_zero_iff.1 h
  subst this; cases hp
  exact ⟨rfl,trivial,trivial⟩
 | succ n ih=>
  intro st hp
  have hne:l≠[]:=by rintro rfl; cases h
  obtain ⟨l',x,rfl⟩:∃ l' x,l = l'++[x]:=⟨l.dropLast,l.getLast hne,(List.dropLast_concat_getLast hne).symm⟩
  rw [parse_snoc] at hp
  cases e:parse l' with
  | none=>rw [e] at hp; cases hp
  | some st0=>
   rw [e] at hp
   obtain ⟨h1,h2,h3⟩:=ih (l:=l') (by simp at h; exact h) e
   obtain ⟨g1,g2⟩:=step_ok hp
   exact ⟨by rw [g1,h1],g2 h2 h3⟩
theorem take_w {st:Xya×Fo} {x:Ze} (hb:(ftoks st.1++toks st.2).length≤1000000) {Q:Bool→List Za→List Zv→Bool→Prop}
  (hs:∀ st',step st x = some st'→Q true (V9 st'.1++Zl st'.2) (frow st'.1) (endT st'.2)) (hn:step st x = none→∀ t r b,Q false t r b) :
  Xi.w x (V9 st.1++Zl st.2) (frow st.1) (endT st.2) Q:=by
 obtain ⟨s,f⟩:=st
 dsimp only at *
 have b1:=fnodes_le s
 have b2:=frow_le s
 have b3:=Yra f
 rw [List.length_append] at hb
 unfold Xi.w
 by_cases k1:x.Kind = 1
 ·rw [if_pos k1]
  have hst:step (s,f) x = some (s,push f x):=by simp [step,k1]
  have:=hs _ hst
  dsimp only at this
  rw [endT_push] at this
  unfold wcut
  cases e:endT f with
  | false=>
   dsimp only
   rw [if_pos (by simp)]
   refine ⟨by simp; omega,?_⟩
   try dsimp only
   have e1:(V9 s++Zl f++[(⟨46,⟨#[]⟩,x.At,1⟩:Za)]).length = (V9 s++Zl f).length+1:=by rw [List.length_append]; rfl
   refine ⟨by rw [e1]; simp only [List.length_append]; constructor <;> omega,by rw [e1]; omega,_,Va _ _,?_,?_⟩
   ·show (0:Nat)+(Yg [x.Ch]).size≤_; rw [Wu]; simp
   ·rw [Ylb,decide_eq_true k1]
    rw [Vua f x e] at this
    simpa [empty_app,str,List.append_assoc] using this
  | true=>
   dsimp only
   rw [if_neg (by simp)]
   obtain ⟨ns,t,a,h1,h2⟩:=Vta f x e
   have ht:=text_le f ⟨46,t,a,1⟩ (by rw [h1]; simp)
   rw [h1,← List.append_assoc]
   rw [h1] at b3
   have e1:(V9 s++ns++[(⟨46,t,a,1⟩:Za)]).length = (V9 s).length+ns.length+1:=by simp; omega
   simp only [List.length_append,List.length_cons,List.length_nil] at b3
   refine ⟨by rw [e1]; constructor <;> omega,by rw [e1]; omega,_,Va _ _,?_,?_⟩
   ·simp only [Wu,List.length_cons,List.length_nil] at ht ⊢; omega
   ·rw [Ylb,decide_eq_true k1]
    rw [h2,← List.append_assoc] at this
    exact this
 rw [if_neg k1]
 by_cases k2:x.Kind = 2
 ·rw [if_pos k2]
  have:=hs ((f,x) :: s,nil) (by simp [step,k2])
  refine ⟨by simp; omega,by simp; omega,?_⟩
  rw [decide_eq_false k1]
  simpa [V9,frow,Zl,endT] using this
 rw [if_neg k2]
 by_cases k3:x.Kind = 3
 ·rw [if_pos k3]
  cases s with
  | nil=>
   rw [if_pos (by simp [frow])]
   exact hn (by simp [step,k3]) _ _ _
  | cons p s=>
   obtain ⟨g,o⟩:=p
   have el:(frow ((g,o) :: s)).length = (frow s).length+1:=by simp [frow]
   rw [if_neg (by rw [el]; omega)]
   refine ⟨by rw [el]; rw [el] at b2; constructor <;> omega,by rw [el]; omega,_,by simp only [frow]; exact Va _ _,?_⟩
   dsimp only
   by_cases e:o.Ch = x.Ch
   ·rw [if_pos e]
    have:=hs (s,app g (node o f x nil)) (by simp [step,k3,e])
    have eg:(V9 ((g,o) :: s)++Zl f)[((V9 s++Zl g).length:Int).toNat]? = some ⟨o.Ch,⟨#[]⟩,o.At,1⟩:=by
     rw [Int.toNat_natCast]; simp only [V9,List.append_assoc]; rw [← List.append_assoc]; rw [List.getElem?_append_right (Nat.le_refl _)]; simp
    refine ⟨by rw [el]; rw [el] at b2; constructor <;> omega,by rw [el]; rw [el] at b2; constructor <;> omega,by rw [el]; omega,?_,by omega,_,eg,?_⟩
    ·simp [V9] at b1 ⊢; constructor <;> omega
    ·simp only [frow] at *
     rw [Ygb,decide_eq_false k1]
     rw [endT_app,nodes_app] at this
     have es:(V9 ((g,o) :: s)++Zl f).set ((V9 s++Zl g).length:Int).toNat ⟨o.Ch,⟨#[]⟩,o.At,((V9 ((g,o) :: s)++Zl f).length:Int) - ((V9 s++Zl g).length:Int)⟩ = V9 s++(Zl g++Zl (node o f x nil)):=by
      rw [Int.toNat_natCast]; simp only [V9]
      rw [List.append_assoc,List.set_append_right _ _ (Nat.le_refl _)]
      simp [Zl]; omega
     rw [es]
     exact this
   ·rw [if_neg e]
    exact hn (by simp [step,k3,e]) _ _ _
 rw [if_neg k3]
 exact hn (by simp [step,k1,k2,k3]) _ _ _
theorem grow_w (l:List Ze) (hl:l.length≤1000000) {Q:Bool→List Za→List Zv→Bool→Prop}
  (hs:∀ st,parse l = some st→Q false (V9 st.1++Zl st.2) (frow st.1) (endT st.2)) (hn:parse l = none→∀ t r b,Q true t r b) :
  Zx.w l [] [] false Q:=by
 unfold Zx.w Z9.w
 refine Zib (fun s=>∃ (n:Nat) (st:Xya×Fo),n≤l.length∧parse (l.take n) = some st∧s = (V9 st.1++Zl st.2,frow st.1,endT st.2,(n:Int))) (fun s=>(l.length - s.2.2.2).toNat) ⟨0,([],nil),Nat.zero_le _,rfl,rfl⟩ ?_
 rintro _ ⟨n,st,hn1,hp,rfl⟩ K hK
 dsimp only
 by_cases h:n < l.length
 ·rw [if_pos (by omega)]
  refine ⟨by omega,l[n],W7 l h,?_⟩
  unfold Vq.w
  have et:l.take (n+1) = l.take n++[l[n]]:=by rw [List.take_add_one,List.getElem?_eq_getElem h]; rfl
  have hlen:=(parse_ok hp).1
  refine take_w (by rw [hlen]; simp; omega) (fun st' e=>?_) (fun e t r b=>?_)
  ·dsimp only
   rw [if_neg (by simp)]
   refine ⟨V8 (by omega) (by omega),hK _ ⟨n+1,st',h,by rw [et,parse_snoc,hp]; exact e,by simp⟩ (by simp; omega)⟩
  ·dsimp only
   rw [if_pos (by simp),decide_eq_true (by omega)]
   exact hn (parse_none (n:=n+1) (by rw [et,parse_snoc,hp]; exact e)) _ _ _
 ·rw [if_neg (by omega),decide_eq_false (by omega)]
  have:n = l.length:=by omega
  subst this
  rw [List.take_length] at hp
  exact hs st hp
end Go.Proofs.YtpkhmfedaaoalaaGreatDoor
namespace Go.Proofs.YtpkhmfedaaoalaaGreatDoor
open Go Go.Proofs.YtpkhmfedaaoalaaGreatDoor.AM Fo
theorem Xqb {α:Type} (l:List α) (p:α→Bool) {n:Nat} (h:n < l.length):(l.take (n+1)).any p = ((l.take n).any p || p l[n]):=by
 rw [List.take_add_one,List.getElem?_eq_getElem h,List.any_append]; simp
theorem Z5b {α:Type} {l:List α} {p:α→Bool} {n:Nat} (h:(l.take n).any p = true):l.any p = true:=by
 rw [List.any_eq_true] at h ⊢
 obtain ⟨x,hx,hp⟩:=h
 exact ⟨x,List.mem_of_mem_take hx,hp⟩
theorem anyL_w {α:Type} (l:List α) (hl:l.length≤1000000) (p:α→Bool) (pw:α→(Bool→Prop)→Prop) (hp:∀ x∈l,∀ Q:Bool→Prop,Q (p x)→pw x Q) {Q:Int→Prop}
  (h1:l.any p = true→∀ n:Nat,Q n) (h2:l.any p = false→Q (-1)) :
  X2 (σ:=Int) (fun a1 next1=>if a1 < (l.length:Int) then (0≤a1)∧∃ v1:α,l[a1.toNat]? = some v1∧pw v1 (fun r1=>if r1 = true then Q a1 else (I64 (a1+1))∧next1 (a1+1)) else Q (-1)) 0:=by
 refine wfor (fun i=>i) (fun n=>(n:Int)) l.length (fun n=>(l.take n).any p = false) (fun _ _=>rfl) rfl (by simp) ?_ ?_
 ·intro n hn hf K hK
  try dsimp only
  rw [if_pos (by omega)]
  refine ⟨by omega,l[n],W7 l hn,hp _ (List.getElem_mem hn) _ ?_⟩
  have e:=Xqb l p hn
  cases ep:p l[n] with
  | true=>rw [if_pos rfl]; exact h1 (Z5b (n:=n+1) (by rw [e,hf,ep]; rfl)) n
  | false=>
   rw [if_neg (by simp)]
   refine ⟨V8 (by omega) (by omega),?_⟩
   have:=hK (by rw [e,hf,ep]; rfl)
   simpa using this
 ·intro hf K
  try dsimp only
  rw [if_neg (by omega)]
  rw [List.take_length] at hf
  exact h2 hf
theorem anyB_w (s:ByteArray) (p:Int→Bool) (pw:Int→(Bool→Prop)→Prop) (hp:∀ c,0≤c→∀ Q:Bool→Prop,Q (p c)→pw c Q) (hi:∀ c,128≤c→p c = true) {Q:Int→Prop}
  (h1:(Zd s).any p = true→∀ n:Nat,Q n) (h2:(Zd s).any p = false→Q (-1)) :
  X2 (σ:=Nat) (fun a1 next1=>if a1 < s.size then pw ((Utf8.decode s a1).1:Int) (fun r1=>if (r1 == true) = true then Q (a1:Int) else next1 (a1+(Utf8.decode s a1).2)) else Q (-1)) 0:=by
 have hl:=Zt s
 refine Zib (fun n=>n≤s.size∧((Zd s).take n).any p = false) (fun n=>s.size - n) ⟨Nat.zero_le _,by simp⟩ ?_
 rintro n ⟨hn,hf⟩ K hK
 try dsimp only
 by_cases h:n < s.size
 ·rw [if_pos h]
  refine hp _ (by omega) _ ?_
  have hn':n < (Zd s).length:=by omega
  have e:=Xqb (Zd s) p hn'
  have eg:(Zd s)[n] = ((s[n]'h).toNat:Int):=by
   simp only [Zd,List.getElem_map,Array.getElem_toList]; rfl
  by_cases ha:(s[n]'h).toNat < 128
  ·rw [decode_ascii s n h ha]
   dsimp only
   rw [eg] at e
   cases ep:p ((s[n]'h).toNat:Int) with
   | true=>rw [if_pos (by simp)]; exact h1 (Z5b (n:=n+1) (by rw [e,hf,ep]; rfl)) n
   | false=>
    rw [if_neg (by simp)]
    exact hK _ ⟨h,by rw [e,hf,ep]; rfl⟩ (by omega)
  ·have hd:=(decode_high s n h (by omega)).1
   rw [hi _ (by omega),if_pos (by simp)]
   exact h1 (Z5b (n:=n+1) (by rw [e,eg,hi _ (by omega)]; simp)) n
 ·rw [if_neg h]
  have:n = s.size:=by omega
  subst this
  rw [List.take_of_length_le (by omega)] at hf
  exact h2 hf
theorem wrap_byte0:∀ n:Fin 256,IntKind.u8.wrap (n.val:Int) = (n.val:Int):=by decide +kernel
theorem wrapB {c:Int} (hc:Byte c):IntKind.u8.wrap c = c:=Xnb (p:=fun c=>IntKind.u8.wrap c = c) wrap_byte0 hc
def oddT (c:Int):Bool:=decide (127 < c) || (!isC c && !isW c)
theorem odd_w {c:Int} (h0:0≤c) {Q:Bool→Prop} (h:Q (oddT c)):Vc.w c Q:=by
 unfold Vc.w
 unfold oddT at h
 split
 ·rename_i e; simpa [e] using h
 ·rename_i e
  have hb:Byte c:=⟨h0,by omega⟩
  rw [wrapB hb]
  rw [decide_eq_false e,Bool.false_or] at h
  refine Is_w hb ?_
  cases ei:isC c with
  | true=>rw [if_neg (by simp)]; simpa [ei] using h
  | false=>rw [if_pos (by simp)]; exact White_w (by simpa [ei] using h)
def nameL:List Int:=[49,50,51,112,108,105,116,114,99,110,101,115,107]
def nameS:List ByteArray:=[⟨#[104,49]⟩,⟨#[104,50]⟩,⟨#[104,51]⟩,⟨#[112]⟩,⟨#[108]⟩,⟨#[105]⟩,⟨#[116]⟩,⟨#[114]⟩,⟨#[99]⟩,⟨#[110]⟩,⟨#[101]⟩,⟨#[115]⟩,⟨#[107]⟩]
theorem letter_w (s:ByteArray) (h0:0 < s.size) (h1:s.size≤1000) {Q:Int→Prop} (h:Q ((s.data.toList[s.size - 1]'(by show s.size - 1 < s.size; omega)).toNat:Int)):J4.w s Q:=by
 unfold J4.w
 refine ⟨by constructor <;> omega,by omega,_,?_,h⟩
 have:((s.size:Int) - 1) = ((s.size - 1:Nat):Int):=by omega
 rw [this]; exact bget s (by omega)
theorem name_facts:∀ n:Fin 13,0 < (nameS.getD n.val ⟨#[]⟩).size∧(nameS.getD n.val ⟨#[]⟩).size≤1000∧((nameS.getD n.val ⟨#[]⟩).data.toList.getD ((nameS.getD n.val ⟨#[]⟩).size - 1) 0).toNat = nameL.getD n.val 0∧nameS.getD n.val ⟨#[]⟩≠⟨#[]⟩:=by decide +kernel
def nameB (c:Int):Bool:=nameL.contains c
theorem Name_w {c:Int} {Q:ByteArray→Prop} (h1:nameB c = true→∀ s:ByteArray,s≠⟨#[]⟩→Q s) (h2:nameB c = false→Q ⟨#[]⟩):X7a.w c Q:=by
 unfold X7a.w Y8a.w Yf.w
 have e0:([(ByteArray.mk #[104,49]),(ByteArray.mk #[104,50]),(ByteArray.mk #[104,51]),(ByteArray.mk #[112]),(ByteArray.mk #[108]),(ByteArray.mk #[105]),(ByteArray.mk #[116]),(ByteArray.mk #[114]),(ByteArray.mk #[99]),(ByteArray.mk #[110]),(ByteArray.mk #[101]),(ByteArray.mk #[115]),(ByteArray.mk #[107])]:List ByteArray) = nameS:=rfl
 rw [e0]
 have hlen:(nameS.length:Int) = 13:=rfl
 simp only [hlen]
 refine wfor (fun s=>s.2) (fun n=>(c,(n:Int))) 13 (fun n=>(nameL.take n).contains c = false) (fun _ _=>rfl) rfl rfl ?_ ?_
 ·intro n hn hf K hK
  dsimp only
  rw [if_pos (by omega)]
  obtain ⟨f1,f2,f3,f4⟩:=name_facts ⟨n,hn⟩
  dsimp only at f1 f2 f3 f4
  have hg:nameS[(n:Int).toNat]? = some (nameS.getD n ⟨#[]⟩):=by
   rw [Int.toNat_natCast,List.getD,List.getElem?_eq_getElem (show n < nameS.length from hn)]; rfl
  refine ⟨by omega,_,hg,?_⟩
  unfold Kg.w
  refine ⟨nameL.getD n 0,letter_w _ f1 f2 ?_,?_⟩
  ·generalize nameS.getD n ⟨#[]⟩ = s at f1 f2 f3
   rw [← f3,List.getD,List.getElem?_eq_getElem (show s.size - 1 < s.data.toList.length from (by show s.size - 1 < s.size; omega))]; rfl
  have hl:n < nameL.length:=hn
  have et:nameL.take (n+1) = nameL.take n++[nameL.getD n 0]:=by
   rw [List.take_add_one,List.getD,List.getElem?_eq_getElem hl]; rfl
  by_cases e:nameL.getD n 0 = c
  ·dsimp only
   rw [if_pos (by simpa using e),if_neg (by omega)]
   refine ⟨by omega,_,hg,h1 ?_ _ f4⟩
   have:c∈nameL:=by
    rw [← List.take_append_drop (n+1) nameL,et]
    exact List.mem_append_left _ (List.mem_append_right _ (by rw [e]; exact List.mem_singleton.2 rfl))
   simpa [nameB] using this
  ·dsimp only
   rw [if_neg (by simpa using e)]
   refine ⟨V8 (by omega) (by omega),?_⟩
   have:=hK (by rw [et,List.contains_append,hf]; simpa using fun q=>e q.symm)
   simpa using this
 ·intro hf K
  dsimp only
  rw [if_neg (by omega),if_pos (by omega)]
  exact h2 hf
def Ynb (x:Za):Bool:=if x.Kind = 46 then decide (x.Text≠⟨#[]⟩) && decide (x.Size = 1) && !((Zd x.Text).any oddT) else decide (x.Text = ⟨#[]⟩) && nameB x.Kind
theorem plain_w (x:Za) {Q:Bool→Prop} (h:Q (Ynb x)):J1.w x Q:=by
 unfold J1.w
 unfold Ynb at h
 split
 ·rename_i e; rw [if_pos e] at h
  split
  ·rename_i e2; simpa [e2] using h
  split
  ·rename_i e2 e3
   unfold Y6.w Xq.w Xn.w
   refine anyB_w x.Text oddT Vc.w (fun c hc Q hq=>odd_w hc hq) (fun c hc=>by simp [oddT]; left; omega) (fun ha n=>?_) (fun ha=>?_)
   ·rw [decide_eq_true (by omega)]; simpa [ha] using h
   ·rw [decide_eq_false (by omega)]; simpa [ha,e2,e3] using h
  ·rename_i e2 e3; simpa [e3] using h
 ·rename_i e; rw [if_neg e] at h
  split
  ·rename_i e2
   refine Name_w (fun hn s hs=>?_) (fun hn=>?_)
   ·simpa [hs,e2,hn] using h
   ·simpa [e2,hn] using h
  ·rename_i e2; simpa [e2] using h
theorem plains_w (t:List Za) (hl:t.length≤1000000) {Q:Bool→Prop} (h:Q (t.any fun x=>!Ynb x)):Zu.w t Q:=by
 unfold Zu.w Z6.w
 refine anyL_w t hl (fun x=>!Ynb x) V0.w (fun x _ Q hq=>?_) (fun ha n=>?_) (fun ha=>?_)
 ·unfold V0.w; exact plain_w x hq
 ·rw [decide_eq_true (by omega)]; rw [ha] at h; exact h
 ·rw [decide_eq_false (by omega)]; rw [ha] at h; exact h
def dep:Fo→Nat
 | nil=>0
 | text _ _ r=>max 1 (dep r)
 | node _ k _ r=>max (dep k+1) (dep r)
theorem sized_wn (t:List Za) (hl:t.length≤1000000):∀ (k:Nat) (F:Fo) (pre post:List Za),dep F < k→t = pre++Zl F++post→∀ {Q:Bool→Prop},Q true→Xk.wn k t (pre.length:Int) ((pre.length:Int)+(Zl F).length) Q
 | 0,_,_,_,h,_,_,_=>by omega
 | k+1,F,pre,post,hd,ht,Q,hq=>by
  unfold Xk.wn
  refine Zib (fun a=>∃ (R:Fo) (p:List Za),t = p++Zl R++post∧a = (p.length:Int)∧p.length+(Zl R).length = pre.length+(Zl F).length∧dep R≤dep F) (fun a=>((pre.length:Int)+(Zl F).length - a).toNat) ⟨F,pre,ht,rfl,rfl,Nat.le_refl _⟩ ?_
  rintro _ ⟨R,p,h1,rfl,h2,h3⟩ K hK
  have hlen:t.length = p.length+(Zl R).length+post.length:=by rw [h1]; simp; omega
  try dsimp only
  cases R with
  | nil=>
   simp only [Zl,List.length_nil] at h2
   rw [if_neg (by omega)]; exact hq
  | text x cs r=>
   simp only [Zl,List.length_cons] at h2 hlen
   rw [if_pos (by omega)]
   have hg:t[((p.length:Nat):Int).toNat]? = some ⟨46,str (x :: cs),x.At,1⟩:=by
    rw [h1,Int.toNat_natCast,List.append_assoc,List.getElem?_append_right (Nat.le_refl _)]; simp [Zl]
   refine ⟨by omega,_,hg,?_⟩
   dsimp only
   rw [if_neg (by omega)]
   refine ⟨by constructor <;> omega,?_⟩
   rw [if_neg (by omega)]
   refine ⟨by constructor <;> omega,by constructor <;> omega,?_⟩
   have e:((p.length:Int)+1) = ((p++[(⟨46,str (x :: cs),x.At,1⟩:Za)]).length:Int):=by simp
   have h1':t = (p++[(⟨46,str (x :: cs),x.At,1⟩:Za)])++Zl r++post:=by rw [h1]; simp [Zl]
   have:Xk.wn k t ((p++[(⟨46,str (x :: cs),x.At,1⟩:Za)]).length:Int) (((p++[(⟨46,str (x :: cs),x.At,1⟩:Za)]).length:Int)+(Zl Fo.nil).length) (fun r1=>if (!r1) = true then Q false else (I64 ((p.length:Int)+1))∧K ((p.length:Int)+1)):=by
    simp only [dep] at h3
    refine sized_wn t hl k Fo.nil _ (Zl r++post) (by simp only [dep]; omega) (by rw [h1']; simp [Zl]) ?_
    rw [if_neg (by simp)]
    refine ⟨by constructor <;> omega,?_⟩
    refine hK _ ⟨r,_,h1',e,by simp; omega,by omega⟩ (by omega)
   simp only [Zl,List.length_nil,Int.natCast_zero,Int.add_zero,← e] at this
   exact this
  | node o q c r=>
   simp only [Zl,List.length_cons,List.length_append] at h2 hlen
   rw [if_pos (by omega)]
   have hg:t[((p.length:Nat):Int).toNat]? = some ⟨o.Ch,⟨#[]⟩,o.At,((Zl q).length:Int)+1⟩:=by
    rw [h1,Int.toNat_natCast,List.append_assoc,List.getElem?_append_right (Nat.le_refl _)]; simp [Zl]
   refine ⟨by omega,_,hg,?_⟩
   dsimp only
   rw [if_neg (by omega)]
   refine ⟨by constructor <;> omega,?_⟩
   rw [if_neg (by omega)]
   refine ⟨by constructor <;> omega,by constructor <;> omega,?_⟩
   have e:((p.length:Int)+1) = ((p++[(⟨o.Ch,⟨#[]⟩,o.At,((Zl q).length:Int)+1⟩:Za)]).length:Int):=by simp
   have e2:((p.length:Int)+(((Zl q).length:Int)+1)) = ((p++[(⟨o.Ch,⟨#[]⟩,o.At,((Zl q).length:Int)+1⟩:Za)]).length:Int)+(Zl q).length:=by simp; omega
   rw [e2,e]
   simp only [dep] at h3
   refine sized_wn t hl k q _ (Zl r++post) (by omega) (by rw [h1]; simp [Zl]) ?_
   rw [if_neg (by simp),← e2]
   refine ⟨by constructor <;> omega,?_⟩
   refine hK _ ⟨r,p++(⟨o.Ch,⟨#[]⟩,o.At,((Zl q).length:Int)+1⟩ :: Zl q),by rw [h1]; simp [Zl],by simp; try omega,by simp; try omega,by omega⟩ (by omega)
theorem sized_w (F:Fo) (hl:(Zl F).length≤1000000) {Q:Bool→Prop} (h:Q true):Xk.w (Zl F) 0 ((Zl F).length:Int) Q:=by
 refine ⟨dep F+1,?_⟩
 have:=sized_wn (Zl F) hl (dep F+1) F [] [] (Nat.lt_succ_self _) (by simp) h
 simpa using this
def evT (s:ByteArray):Zm:=⟨1,0,s,0⟩
def evO (k:Int):Zm:=⟨2,k,⟨#[]⟩,0⟩
def evC:Zm:=⟨3,0,⟨#[]⟩,0⟩
def evs:Fo→List Zm
 | nil=>[]
 | text x cs r=>evT (str (x :: cs)) :: evs r
 | node o k c r=>evO o.Ch :: (evs k++evC :: evs r)
def remE:Fo→List Fo→List Zm
 | R,[]=>evs R
 | R,S :: K=>evs R++evC :: remE S K
def remN:Fo→List Fo→List Za
 | R,[]=>Zl R
 | R,S :: K=>Zl R++remN S K
def ends:Int→Fo→List Fo→List Int
 | i,R,[]=>[]
 | i,R,S :: K=>ends (i+(Zl R).length) S K++[i+(Zl R).length]
theorem evs_le:∀ F:Fo,(evs F).length≤2 * (Zl F).length
 | nil=>Nat.le_refl _
 | text x cs r=>by have:=evs_le r; simp [evs,Zl]; omega
 | node o k c r=>by have:=evs_le r; have:=evs_le k; simp [evs,Zl]; omega
theorem Xib:∀ (K:List Fo) (i:Int) (R:Fo),(ends i R K).length = K.length
 | [],_,_=>rfl
 | S :: K,i,R=>by simp [ends,Xib K]
theorem Yrb:∀ {F:Fo},(Zl F).length = 0→F = nil
 | nil,_=>rfl
 | text ..,h=>by simp [Zl] at h
 | node ..,h=>by simp [Zl] at h
theorem remE_end:∀ (K:List Fo) (R:Fo),(remN R K).length = 0→remE R K = List.replicate K.length evC
 | [],R,h=>by rw [Yrb h]; rfl
 | S :: K,R,h=>by
  simp only [remN,List.length_append] at h
  have h1:(Zl R).length = 0:=by omega
  rw [Yrb h1]
  simp only [remE,evs,List.nil_append,List.length_cons,List.replicate_succ]
  rw [remE_end K S (by omega)]
def plF:Fo→Prop
 | nil=>True
 | text x cs r=>(Zd (str (x :: cs))).any oddT = false∧plF r
 | node o k c r=>nameB o.Ch = true∧plF k∧plF r
theorem nameB_dot {c:Int} (h:nameB c = true):c≠46:=by rintro rfl; exact absurd h (by decide)
theorem plF_of:∀ F:Fo,((Zl F).any fun x=>!Ynb x) = false→plF F
 | nil,_=>trivial
 | text x cs r,h=>by
  simp only [Zl,List.any_cons,Bool.or_eq_false_iff] at h
  refine ⟨?_,plF_of r h.2⟩
  have:=h.1
  simp only [Ynb,if_true,Bool.not_eq_false',Bool.and_eq_true] at this
  simpa using this.2
 | node o k c r,h=>by
  simp only [Zl,List.any_cons,List.any_append,Bool.or_eq_false_iff] at h
  refine ⟨?_,plF_of k h.2.1,plF_of r h.2.2⟩
  have:=h.1
  simp only [Ynb] at this
  split at this
  ·simp at this
  ·simpa using this
theorem remE_text (x:Ze) (cs:List Ze) (r:Fo) (K:List Fo):remE (text x cs r) K = evT (str (x :: cs)) :: remE r K:=by cases K <;> rfl
theorem remE_node (o c:Ze) (k r:Fo) (K:List Fo):remE (node o k c r) K = evO o.Ch :: remE k (r :: K):=by cases K <;> simp [remE,evs]
theorem remN_text (x:Ze) (cs:List Ze) (r:Fo) (K:List Fo):remN (text x cs r) K = ⟨46,str (x :: cs),x.At,1⟩ :: remN r K:=by cases K <;> rfl
theorem remN_node (o c:Ze) (k r:Fo) (K:List Fo):remN (node o k c r) K = ⟨o.Ch,⟨#[]⟩,o.At,((Zl k).length:Int)+1⟩ :: remN k (r :: K):=by cases K <;> simp [remN,Zl]
theorem ends_congr {i j:Int} {R S:Fo} (h:i+(Zl R).length = j+(Zl S).length) (K:List Fo):ends i R K = ends j S K:=by
 cases K with
 | nil=>rfl
 | cons T K=>simp only [ends,h]
theorem remE_len:∀ (K:List Fo) (R:Fo),K.length≤(remE R K).length
 | [],_=>Nat.zero_le _
 | S :: K,R=>by have:=remE_len K S; simp [remE]; omega
structure EvI (F:Fo) (out:List Zm) (e:List Int) (i:Nat) (R:Fo) (K:List Fo):Prop where
 a:out++remE R K = evs F
 b:e = ends i R K
 c:(Zl F).drop i = remN R K
 d:plF R∧∀ S∈K,plF S
theorem events_w (F:Fo) (hp:plF F) (hl:(Zl F).length≤1000000) {Q:List Zm→Prop} (h:Q (evs F)):K3.w (Zl F) Q:=by
 have hE:=evs_le F
 unfold K3.w
 refine Zib (fun s=>∃ (i:Nat) (R:Fo) (K:List Fo),s.2.2 = (i:Int)∧i≤(Zl F).length∧EvI F s.1 s.2.1 i R K) (fun s=>((Zl F).length - s.2.2).toNat) ⟨0,F,[],rfl,Nat.zero_le _,⟨rfl,rfl,rfl,hp,by simp⟩⟩ ?_
 rintro ⟨out,e,_⟩ ⟨i,R,K,hi,hil,hI⟩ N hN
 dsimp only at hi hI; subst hi
 dsimp only
 by_cases hlt:i < (Zl F).length
 ·rw [if_pos (by omega)]
  refine ⟨by omega,(Zl F)[i],W7 _ hlt,?_⟩
  have key:∀ (out:List Zm) (e:List Int) (R:Fo) (K:List Fo),EvI F out e i R K→(K = []∨R≠nil)→(fun x:List Zm×List Int=>match x with
    | (a4,a5)=>if (Zl F)[i].Kind = 46 then ((a4.length+([(⟨1,0,(Zl F)[i].Text,0⟩:Zm)]:List Zm).length) * 40≤140737488355328)∧(I64 ((i:Int)+1))∧N (a4++([(⟨1,0,(Zl F)[i].Text,0⟩:Zm)]:List Zm),a5,(i:Int)+1)
     else ((a4.length+([(⟨2,(Zl F)[i].Kind,(ByteArray.mk #[]),0⟩:Zm)]:List Zm).length) * 40≤140737488355328)∧(I64 ((i:Int)+(Zl F)[i].Size))∧((a5.length+([(i:Int)+(Zl F)[i].Size]:List Int).length) * 8≤140737488355328)∧(I64 ((i:Int)+1))∧N (a4++([(⟨2,(Zl F)[i].Kind,(ByteArray.mk #[]),0⟩:Zm)]:List Zm),a5++([(i:Int)+(Zl F)[i].Size]:List Int),(i:Int)+1)) (out,e):=by
   intro out e R K hI hne
   have hd:=hI.c
   rw [List.drop_eq_getElem_cons hlt] at hd
   have ha:=congrArg List.length hI.a
   rw [List.length_append] at ha
   have hKl:=remE_len K R
   have hel:e.length = K.length:=by rw [hI.b,Xib]
   cases R with
   | nil=>
    rcases hne with rfl | q
    ·simp [remN,Zl] at hd; omega
    ·exact absurd rfl q
   | text x cs r=>
    rw [remN_text] at hd
    obtain ⟨h1,h2⟩:=List.cons.inj hd
    dsimp only
    rw [h1]
    dsimp only
    rw [if_pos rfl]
    have hI2:EvI F (out++[evT (str (x :: cs))]) e (i+1) r K:=⟨by rw [List.append_assoc,List.singleton_append,← remE_text]; exact hI.a,by rw [hI.b]; exact ends_congr (by simp [Zl]; omega) K,h2,hI.d.1.2,hI.d.2⟩
    have ha2:=congrArg List.length hI2.a
    simp only [List.length_append,List.length_cons,List.length_nil] at ha2 ⊢
    refine ⟨by omega,by constructor <;> omega,hN _ ⟨i+1,r,K,by simp,hlt,hI2⟩ (by simp; omega)⟩
   | node o k c r=>
    rw [remN_node] at hd
    obtain ⟨h1,h2⟩:=List.cons.inj hd
    dsimp only
    rw [h1]
    dsimp only
    rw [if_neg (nameB_dot hI.d.1.1)]
    have hI2:EvI F (out++[evO o.Ch]) (e++[(i:Int)+(((Zl k).length:Int)+1)]) (i+1) k (r :: K):=by
     refine ⟨by rw [List.append_assoc,List.singleton_append,← remE_node]; exact hI.a,?_,h2,hI.d.1.2.1,fun S hS=>?_⟩
     ·simp only [ends]
      rw [hI.b,ends_congr (i:=(i:Int)) (j:=((i+1:Nat):Int)+(Zl k).length) (R:=node o k c r) (S:=r) (by simp [Zl]; omega) K]
      congr 2; omega
     ·rcases List.mem_cons.1 hS with rfl | hS
      ·exact hI.d.1.2.2
      ·exact hI.d.2 S hS
    have ha2:=congrArg List.length hI2.a
    have hK2:=remE_len (r :: K) k
    have hkl:(Zl k).length≤(Zl F).length:=by
     have:=congrArg List.length hI2.c
     simp only [remN,List.length_drop,List.length_append] at this; omega
    simp only [List.length_append,List.length_cons,List.length_nil] at ha2 hK2 ⊢
    refine ⟨by omega,by constructor <;> omega,by omega,by constructor <;> omega,hN _ ⟨i+1,k,r :: K,by simp,hlt,hI2⟩ (by simp; omega)⟩
  unfold wcut
  refine Zib (fun s=>∃ (R:Fo) (K:List Fo),EvI F s.1 s.2 i R K) (fun s=>s.2.length) ⟨R,K,hI⟩ ?_
  rintro ⟨out,e⟩ ⟨R,K,hI⟩ M hM
  dsimp only at hI ⊢
  have ha:=congrArg List.length hI.a
  rw [List.length_append] at ha
  have hKl:=remE_len K R
  have hel:e.length = K.length:=by rw [hI.b,Xib]
  cases K with
  | nil=>
   rw [if_neg (by rw [hel]; simp)]
   exact key out e R [] hI (.inl rfl)
  | cons S K=>
   have hb:=hI.b
   simp only [ends] at hb
   simp only [List.length_cons] at hel hKl
   rw [if_pos (by omega)]
   refine ⟨by constructor <;> omega,by omega,(i:Int)+(Zl R).length,by rw [hb]; exact Va _ _,?_⟩
   by_cases hz:(Zl R).length = 0
   ·rw [if_pos (by omega)]
    have hR:=Yrb hz
    subst hR
    have hI2:EvI F (out++[evC]) (ends (i:Int) S K) i S K:=⟨by rw [List.append_assoc,List.singleton_append]; exact hI.a,rfl,hI.c,hI.d.2 S (by simp),fun T hT=>hI.d.2 T (by simp [hT])⟩
    have ht:e.take (((e.length:Int) - 1).toNat) = ends (i:Int) S K:=by
     rw [hb,Ygb]; simp [Zl]
    have ha2:=congrArg List.length hI2.a
    simp only [List.length_append,List.length_cons,List.length_nil] at ha2 ⊢
    refine ⟨by constructor <;> omega,⟨by omega,by omega⟩,by omega,hM _ ⟨S,K,by rw [ht]; exact hI2⟩ ?_⟩
    rw [ht,Xib]; dsimp only; omega
   ·rw [if_neg (by omega)]
    exact key out e R (S :: K) hI (.inr (by rintro rfl; exact hz rfl))
 ·rw [if_neg (by omega)]
  have hd:=hI.c
  rw [List.drop_of_length_le (by omega)] at hd
  have hr:=remE_end K R (by rw [← hd]; rfl)
  have ha:=hI.a
  rw [hr] at ha
  have hel:e.length = K.length:=by rw [hI.b,Xib]
  have hal:=congrArg List.length ha
  simp only [List.length_append,List.length_replicate] at hal
  refine wfor (fun s=>s.2) (fun n=>(out++List.replicate n evC,(n:Int))) K.length (fun _=>True) (fun _ _=>rfl) (by simp) trivial ?_ ?_
  ·intro n hn _ M hM
   dsimp only
   rw [if_pos (by omega)]
   refine ⟨by simp; omega,by constructor <;> omega,?_⟩
   have:=hM trivial
   rw [List.replicate_succ',← List.append_assoc,Int.natCast_add] at this
   exact this
  ·intro _ M
   dsimp only
   rw [if_neg (by omega),ha]; exact h
end Go.Proofs.YtpkhmfedaaoalaaGreatDoor
