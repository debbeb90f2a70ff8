/- ItemsGlues: a part of its proof (packed by a program). -/
import Derived.Test.YtpkhmfedaaoalaaGreatDoorMore
set_option linter.all false
namespace Go.Proofs.YtpkhmfedaaoalaaGreatDoor.AM
open Go
structure Itm where
 x:AV
 ptr:Bool
 sz:Nat
 rows:List (List AV)
 ty:Option (Nat×Nat)
def Itm.blk (it:Itm) (b:Nat):Prop:=it.x = if it.ptr then .optr b it.sz 0 0 else .osl b it.sz 0 it.rows.length
def Itm.held (it:Itm) (o:Option Ob):Prop:=∃ tl,o = some ⟨it.sz,it.rows++tl,it.ty⟩∧(it.ptr = true→tl = [])
theorem Itm.held_all (it:Itm):it.held (some ⟨it.sz,it.rows,it.ty⟩):=⟨[],by simp,fun _=>rfl⟩
def dead:Itm:=⟨anil,false,0,[],none⟩
def Own (h0 h:Hp) (its:List Itm):Prop:=h0.sub h∧∃ f:Nat→Option Nat,
 (∀ j it,its[j]? = some it→match f j with
  | none=>it.x = anil∧it.rows = []∧it.ptr = false
  | some b=>it.blk b∧it.held (h b)∧h0 b = none) ∧
 (∀ j,its.length≤j→f j = none)∧∀ i j b,f i = some b→f j = some b→i = j
section
variable {h0 h:Hp} {its:List Itm}
theorem Own.nil (h:Hp):Own h h []:=⟨Hp.sub.refl h,fun _=>none,by simp,by simp,by simp⟩
theorem Own.sub (H:Own h0 h its):h0.sub h:=H.1
theorem Own.eq {its':List Itm} (H:Own h0 h its) (e:its = its'):Own h0 h its':=e ▸ H
theorem Own.change (H:Own h0 h its) {j:Nat} {it:Itm} {h':Hp} (o:Option Nat) (hj:j < its.length) (hs:h0.sub h')
  (h1:match o with
   | none=>it.x = anil∧it.rows = []∧it.ptr = false
   | some b=>it.blk b∧it.held (h' b)∧h0 b = none)
  (h2:∀ (f:Nat→Option Nat) (i:Nat) (it':Itm) (b:Nat),i≠j→its[i]? = some it'→f i = some b→(∀ i j b,f i = some b→f j = some b→i = j) →
   (∀ j it,its[j]? = some it→match f j with
    | none=>it.x = anil∧it.rows = []∧it.ptr = false
    | some b=>it.blk b∧it.held (h b)∧h0 b = none)→h' b = h b∧o≠some b):Own h0 h' (its.set j it):=by
 obtain ⟨_,f,a1,a2,a3⟩:=H
 refine ⟨hs,fun i=>if i = j then o else f i,fun i it' hi=>?_,fun i hi=>?_,fun i k b hi hk=>?_⟩
 ·by_cases e:i = j
  ·subst e
   rw [List.getElem?_set_self hj] at hi
   cases hi
   simpa using h1
  ·have e':¬ i = j:=e
   rw [List.getElem?_set_ne (fun q=>e q.symm)] at hi
   simp only [e',if_false]
   have:=a1 i it' hi
   cases hf:f i with
   | none=>rw [hf] at this; exact this
   | some b=>
    rw [hf] at this
    refine ⟨this.1,?_,this.2.2⟩
    rw [(h2 f i it' b e' hi hf a3 a1).1]; exact this.2.1
 ·simp only [List.length_set] at hi
  have:¬ i = j:=by omega
  simp only [this,if_false]; exact a2 i hi
 ·have key:∀ m b,¬ m = j→f m = some b→o≠some b:=fun m b hm hf=>by
   have hlt:m < its.length:=by
    rcases Nat.lt_or_ge m its.length with q | q
    ·exact q
    ·rw [a2 m q] at hf; cases hf
   exact (h2 f m _ b hm (List.getElem?_eq_getElem hlt) hf a3 a1).2
  by_cases ei:i = j <;> by_cases ek:k = j
  ·omega
  ·simp only [ei,if_true] at hi; simp only [ek,if_false] at hk
   exact absurd hi (key k b ek hk)
  ·simp only [ek,if_true] at hk; simp only [ei,if_false] at hi
   exact absurd hk (key i b ei hi)
  ·simp only [ei,if_false] at hi; simp only [ek,if_false] at hk
   exact a3 i k b hi hk
theorem Own.add (H:Own h0 h its) {b:Nat} (hb:h b = none) (it:Itm) (hx:it.blk b):Own h0 (h.upd b ⟨it.sz,it.rows,it.ty⟩) (its++[it]):=by
 obtain ⟨hs,f,a1,a2,a3⟩:=H
 have hbf:∀ i,i < its.length→f i≠some b:=fun i hi e=>by
  have:=a1 i _ (List.getElem?_eq_getElem hi)
  rw [e] at this
  obtain ⟨tl,q,_⟩:=this.2.1
  rw [q] at hb; cases hb
 refine ⟨hs.upd _ (hs.none hb),fun i=>if i = its.length then some b else f i,fun i it' hi=>?_,fun i hi=>?_,fun i k c hi hk=>?_⟩
 ·rw [List.getElem?_append] at hi
  split at hi
  ·rename_i hlt
   have e:¬ i = its.length:=by omega
   simp only [e,if_false]
   have:=a1 i it' hi
   cases hf:f i with
   | none=>rw [hf] at this; exact this
   | some c=>
    rw [hf] at this
    refine ⟨this.1,?_,this.2.2⟩
    rw [Hp.upd_ne]
    ·exact this.2.1
    ·rintro rfl; exact hbf i hlt hf
  ·rename_i hge
   have:i = its.length:=by
    have:=(List.getElem?_eq_some_iff.1 hi).1
    simp at this; omega
   subst this
   simp at hi; subst hi
   simp only [if_true]
   exact ⟨hx,by simpa using it.held_all,hs.none hb⟩
 ·simp at hi
  have:¬ i = its.length:=by omega
  simp only [this,if_false]
  exact a2 i (by omega)
 ·have key:∀ m,¬ m = its.length→f m≠some b:=fun m hm e=>by
   rcases Nat.lt_or_ge m its.length with q | q
   ·exact hbf m q e
   ·rw [a2 m q] at e; cases e
  by_cases ei:i = its.length <;> by_cases ek:k = its.length
  ·omega
  ·simp only [ei,if_true] at hi; simp only [ek,if_false] at hk
   cases hi; exact absurd hk (key k ek)
  ·simp only [ek,if_true] at hk; simp only [ei,if_false] at hi
   cases hk; exact absurd hi (key i ei)
  ·simp only [ei,if_false] at hi; simp only [ek,if_false] at hk
   exact a3 i k c hi hk
theorem Own.addNil (H:Own h0 h its) (sz:Nat) (ty:Option (Nat×Nat)):Own h0 h (its++[⟨anil,false,sz,[],ty⟩]):=by
 obtain ⟨hs,f,a1,a2,a3⟩:=H
 refine ⟨hs,f,fun i it' hi=>?_,fun i hi=>a2 i (by simp at hi; omega),a3⟩
 rw [List.getElem?_append] at hi
 split at hi
 ·exact a1 i it' hi
 ·rename_i hge
  have:i = its.length:=by
   have:=(List.getElem?_eq_some_iff.1 hi).1
   simp at this; omega
  subst this
  simp at hi; subst hi
  rw [a2 _ (Nat.le_refl _)]
  exact ⟨rfl,rfl,rfl⟩
theorem Own.getP {ty:Option (Nat×Nat)} (H:Own h0 h its) (j:Nat) {b sz:Nat} {rows:List (List AV)} (hj:its[j]? = some ⟨.optr b sz 0 0,true,sz,rows,ty⟩):h b = some ⟨sz,rows,ty⟩:=by
 obtain ⟨hs,f,a1,a2,a3⟩:=H
 have:=a1 j _ hj
 cases hf:f j with
 | none=>rw [hf] at this; cases this.1
 | some c=>
  rw [hf] at this
  have e:=this.1
  simp only [Itm.blk,if_true] at e
  cases e
  obtain ⟨tl,q,k⟩:=this.2.1
  rw [k rfl] at q; simpa using q
theorem Own.getS {ty:Option (Nat×Nat)} (H:Own h0 h its) (j:Nat) {b sz n:Nat} {rows:List (List AV)} (hj:its[j]? = some ⟨.osl b sz 0 n,false,sz,rows,ty⟩):(∃ tl,h b = some ⟨sz,rows++tl,ty⟩)∧n = rows.length:=by
 obtain ⟨hs,f,a1,a2,a3⟩:=H
 have:=a1 j _ hj
 cases hf:f j with
 | none=>rw [hf] at this; cases this.1
 | some c=>
  rw [hf] at this
  have e:=this.1
  simp only [Itm.blk,Bool.false_eq_true,if_false] at e
  cases e
  obtain ⟨tl,q,_⟩:=this.2.1
  exact ⟨⟨tl,q⟩,rfl⟩
theorem Own.cases {ty:Option (Nat×Nat)} (H:Own h0 h its) (j:Nat) {x:AV} {sz:Nat} {rows:List (List AV)} (hj:its[j]? = some ⟨x,false,sz,rows,ty⟩):(x = anil∧rows = [])∨∃ b tl,x = .osl b sz 0 rows.length∧h b = some ⟨sz,rows++tl,ty⟩:=by
 obtain ⟨hs,f,a1,a2,a3⟩:=H
 have:=a1 j _ hj
 cases hf:f j with
 | none=>rw [hf] at this; exact .inl ⟨this.1,this.2.1⟩
 | some c=>
  rw [hf] at this
  have e:=this.1
  simp only [Itm.blk,Bool.false_eq_true,if_false] at e
  obtain ⟨tl,q,_⟩:=this.2.1
  exact .inr ⟨c,tl,e,q⟩
theorem Own.row {ty:Option (Nat×Nat)} (H:Own h0 h its) (j:Nat) {x:AV} {sz:Nat} {rows:List (List AV)} (hj:its[j]? = some ⟨x,false,sz,rows,ty⟩) {k:Nat} {r:List AV} (hr:rows[k]? = some r) :
  ∃ b o,x = .osl b sz 0 rows.length∧h b = some o∧o.sz = sz∧o.rows[k]? = some r∧k < rows.length:=by
 have hk:=(List.getElem?_eq_some_iff.1 hr).1
 rcases H.cases j hj with ⟨_,rfl⟩ | ⟨b,tl,q1,q2⟩
 ·simp at hr
 ·exact ⟨b,_,q1,q2,rfl,by rw [List.getElem?_append,if_pos hk]; exact hr,hk⟩
theorem Own.rowX {ty:Option (Nat×Nat)} (H:Own h0 h its) (j:Nat) {b sz n:Nat} {rows:List (List AV)} (hj:its[j]? = some ⟨.osl b sz 0 n,false,sz,rows,ty⟩) {k:Nat} {r:List AV} (hr:rows[k]? = some r) :
  ∃ o,h b = some o∧o.sz = sz∧o.rows[k]? = some r∧k < n:=by
 obtain ⟨b',o,q1,q2,q3,q4,q5⟩:=H.row j hj hr
 cases q1
 exact ⟨o,q2,q3,q4,q5⟩
theorem Z0a {α:Type} {l:List α} {i:Nat} {v:α} (w:α) (h:l[i]? = some v):(l.set i w)[i]? = some w:=by
 simp [(List.getElem?_eq_some_iff.1 h).1]
theorem Own.setP {ty:Option (Nat×Nat)} (H:Own h0 h its) (j:Nat) {b sz:Nat} {rows:List (List AV)} (rows':List (List AV)) (hj:its[j]? = some ⟨.optr b sz 0 0,true,sz,rows,ty⟩):Own h0 (h.upd b ⟨sz,rows',ty⟩) (its.set j ⟨.optr b sz 0 0,true,sz,rows',ty⟩):=by
 have hlt:=(List.getElem?_eq_some_iff.1 hj).1
 have hb0:h0 b = none:=by
  obtain ⟨hs,f,a1,a2,a3⟩:=H
  have:=a1 j _ hj
  cases hf:f j with
  | none=>rw [hf] at this; cases this.1
  | some c=>
   rw [hf] at this
   have e:=this.1
   simp only [Itm.blk,if_true] at e
   cases e; exact this.2.2
 refine H.change (some b) hlt (H.1.upd _ hb0) ⟨by simp [Itm.blk],by simpa using Itm.held_all ⟨.optr b sz 0 0,true,sz,rows',ty⟩,hb0⟩ ?_
 intro f i it' c hne hi hf hinj hall
 have h1:=hall j _ hj
 have hbc:c≠b:=by
  rintro rfl
  cases hfj:f j with
  | none=>rw [hfj] at h1; cases h1.1
  | some d=>
   rw [hfj] at h1
   have e:=h1.1
   simp only [Itm.blk,if_true] at e
   cases e; exact hne (hinj i j _ hf hfj)
 exact ⟨Hp.upd_ne _ _ hbc,fun e=>by cases e; exact hbc rfl⟩
theorem Own.setS {ty:Option (Nat×Nat)} (H:Own h0 h its) (j:Nat) {b sz n k:Nat} {rows:List (List AV)} {o:Ob} (r':List AV) (hk:k < rows.length) (hj:its[j]? = some ⟨.osl b sz 0 n,false,sz,rows,ty⟩) (ho:h b = some o):Own h0 (h.upd b ⟨sz,o.rows.set k r',o.ty⟩) (its.set j ⟨.osl b sz 0 n,false,sz,rows.set k r',ty⟩):=by
 have hlt:=(List.getElem?_eq_some_iff.1 hj).1
 obtain ⟨⟨tl,ht⟩,hn⟩:=H.getS j hj
 rw [ho] at ht; cases ht
 have hb0:h0 b = none:=by
  obtain ⟨hs,f,a1,a2,a3⟩:=H
  have:=a1 j _ hj
  cases hf:f j with
  | none=>rw [hf] at this; cases this.1
  | some c=>
   rw [hf] at this
   have e:=this.1
   simp only [Itm.blk,Bool.false_eq_true,if_false] at e
   cases e; exact this.2.2
 refine H.change (some b) hlt (H.1.upd _ hb0) ⟨by simp [Itm.blk,hn],⟨tl,by simp [List.set_append,hk],fun e=>by cases e⟩,hb0⟩ ?_
 intro f i it' c hne hi hf hinj hall
 have h1:=hall j _ hj
 have hbc:c≠b:=by
  rintro rfl
  cases hfj:f j with
  | none=>rw [hfj] at h1; cases h1.1
  | some d=>
   rw [hfj] at h1
   have e:=h1.1
   simp only [Itm.blk,Bool.false_eq_true,if_false] at e
   cases e; exact hne (hinj i j _ hf hfj)
 exact ⟨Hp.upd_ne _ _ hbc,fun e=>by cases e; exact hbc rfl⟩
theorem Own.trim {ty:Option (Nat×Nat)} (H:Own h0 h its) (j:Nat) {b sz n:Nat} {rows:List (List AV)} (m:Nat) (hm:m≤rows.length) (hj:its[j]? = some ⟨.osl b sz 0 n,false,sz,rows,ty⟩):Own h0 h (its.set j ⟨.osl b sz 0 m,false,sz,rows.take m,ty⟩):=by
 have hlt:=(List.getElem?_eq_some_iff.1 hj).1
 obtain ⟨⟨tl,ht⟩,hn⟩:=H.getS j hj
 have hb0:h0 b = none:=by
  obtain ⟨hs,f,a1,a2,a3⟩:=H
  have:=a1 j _ hj
  cases hf:f j with
  | none=>rw [hf] at this; cases this.1
  | some c=>
   rw [hf] at this
   have e:=this.1
   simp only [Itm.blk,Bool.false_eq_true,if_false] at e
   cases e; exact this.2.2
 refine H.change (some b) hlt H.1 ⟨by simp [Itm.blk,hm],⟨rows.drop m++tl,by rw [ht,← List.append_assoc,List.take_append_drop],fun e=>by cases e⟩,hb0⟩ ?_
 intro f i it' c hne hi hf hinj hall
 have h1:=hall j _ hj
 have hbc:c≠b:=by
  rintro rfl
  cases hfj:f j with
  | none=>rw [hfj] at h1; cases h1.1
  | some d=>
   rw [hfj] at h1
   have e:=h1.1
   simp only [Itm.blk,Bool.false_eq_true,if_false] at e
   cases e; exact hne (hinj i j _ hf hfj)
 exact ⟨rfl,fun e=>by cases e; exact hbc rfl⟩
theorem Own.drop (H:Own h0 h its) (j:Nat):Own h0 h (its.set j dead):=by
 rcases Nat.lt_or_ge j its.length with hlt | hge
 ·exact H.change none hlt H.1 ⟨rfl,rfl,rfl⟩ (fun f i it' c hne hi hf hinj hall=>⟨rfl,by simp⟩)
 ·rw [List.set_eq_of_length_le hge]; exact H
theorem Own.take (H:Own h0 h its) (n:Nat):Own h0 h (its.take n):=by
 obtain ⟨hs,f,a1,a2,a3⟩:=H
 refine ⟨hs,fun i=>if i < n then f i else none,fun i it' hi=>?_,fun i hi=>?_,fun i k c hi hk=>?_⟩
 ·rw [List.getElem?_take] at hi
  split at hi
  ·rename_i e; simp only [e,if_true]; exact a1 i it' hi
  ·cases hi
 ·simp only [List.length_take] at hi ⊢
  split
  ·exact a2 i (by omega)
  ·rfl
 ·simp only at hi hk
  split at hi <;> try cases hi
  split at hk <;> try cases hk
  exact a3 i k c hi hk
theorem Own.del (H:Own h0 h its) (j:Nat) {it:Itm} (hj:its[j]? = some it) {b:Nat} (hb:it.blk b) (hne:it.x≠anil):Own h0 (h.del b) (its.set j dead)∧h0 b = none∧it.held (h b):=by
 have hlt:=(List.getElem?_eq_some_iff.1 hj).1
 have blk_inj:∀ c,it.blk c→c = b:=by
  intro c hc
  simp only [Itm.blk] at hb hc
  rw [hb] at hc
  split at hc <;> (cases hc; rfl)
 have hb0:h0 b = none∧it.held (h b):=by
  obtain ⟨hs,f,a1,a2,a3⟩:=H
  have:=a1 j _ hj
  cases hf:f j with
  | none=>rw [hf] at this; exact absurd this.1 hne
  | some c=>
   rw [hf] at this
   have e:=blk_inj c this.1
   subst e; exact ⟨this.2.2,this.2.1⟩
 refine ⟨?_,hb0.1,hb0.2⟩
 refine H.change none hlt (H.1.del hb0.1) ⟨rfl,rfl,rfl⟩ ?_
 intro f i it' c hne' hi hf hinj hall
 have h1:=hall j _ hj
 have hbc:c≠b:=by
  rintro rfl
  cases hfj:f j with
  | none=>rw [hfj] at h1; exact hne h1.1
  | some d=>
   rw [hfj] at h1
   have e:=blk_inj d h1.1
   subst e; exact hne' (hinj i j _ hf hfj)
 exact ⟨Hp.del_ne _ hbc,by simp⟩
theorem K6a {b sz off n:Nat}:AV.osl b sz off n≠anil:=by intro e; cases e
theorem optr_ne_nil {b sz r c:Nat}:AV.optr b sz r c≠anil:=by intro e; cases e
theorem Own.freeze {ty:Option (Nat×Nat)} (H:Own h0 h its) (j:Nat) {x:AV} {sz:Nat} {rows:List (List AV)} (hj:its[j]? = some ⟨x,false,sz,rows,ty⟩):∃ h',Zf x h (.isl sz rows) h'∧Own h0 h' (its.set j dead):=by
 rcases H.cases j hj with ⟨rfl,rfl⟩ | ⟨b,tl,rfl,hb⟩
 ·exact ⟨h,Zf.nil h sz,H.drop j⟩
 ·refine ⟨h.del b,?_,(H.del j hj (b:=b) (by simp [Itm.blk]) K6a).1⟩
  have:=Zf.freeze (off:=0) (len:=rows.length) hb rfl (by simp)
  simpa using this
theorem Own.lent {ty:Option (Nat×Nat)} (H:Own h0 h its) (j:Nat) {x:AV} {sz:Nat} {rows:List (List AV)} (hj:its[j]? = some ⟨x,false,sz,rows,ty⟩):Lent h x (.isl sz rows):=by
 rcases H.cases j hj with ⟨rfl,rfl⟩ | ⟨b,tl,rfl,hb⟩
 ·exact Lent.nil h sz
 ·have:=Lent.osl (off:=0) (len:=rows.length) hb rfl (by simp)
  simpa using this
end
section
variable {h0 h:Hp} {its:List Itm} {K:St→Prop} {d:Option Nat} {tm:List AV} {P:Program} {T:Tab}
theorem Own.newS {ty:Option (Nat×Nat)} (H:Own h0 h its) {sz n:Nat} {rows:List (List AV)} (hl:rows.length = n) (k:∀ b h',Own h0 h' (its++[⟨.osl b sz 0 n,false,sz,rows,ty⟩])→K ⟨put tm d (.osl b sz 0 n),h'⟩) :
  news K d tm h (fun b=>.osl b sz 0 n) ⟨sz,rows,ty⟩:=fun b hb=>k b _ (H.add hb ⟨.osl b sz 0 n,false,sz,rows,ty⟩ (by simp [Itm.blk,hl]))
theorem Own.newP {ty:Option (Nat×Nat)} (H:Own h0 h its) {sz:Nat} {rows:List (List AV)} (k:∀ b h',Own h0 h' (its++[⟨.optr b sz 0 0,true,sz,rows,ty⟩])→K ⟨put tm d (.optr b sz 0 0),h'⟩) :
  news K d tm h (fun b=>.optr b sz 0 0) ⟨sz,rows,ty⟩:=fun b hb=>k b _ (H.add hb ⟨.optr b sz 0 0,true,sz,rows,ty⟩ (by simp [Itm.blk]))
theorem Own.app (H:Own h0 h its) (j:Nat) {e m0:Nat} {ei:TI} {x:AV} {sz:Nat} {rows:List (List AV)} (ys:List (List AV)) (hj:its[j]? = some ⟨x,false,sz,rows,some (e,m0)⟩) (hsz:ei.size = sz) (hs0:0 < sz) (hb:0 < ei.bytes) (hle:(rows.length+ys.length) * ei.bytes≤140737488355328)
  (k:∀ x' h',Own h0 h' (its.set j ⟨x',false,sz,rows++ys,some (e,0)⟩)→K ⟨put tm d x',h'⟩):appR e ei K d tm h (aDst ei.size x h) (some ys):=by
 subst hsz
 have hlt:=(List.getElem?_eq_some_iff.1 hj).1
 rcases H.cases j hj with ⟨rfl,rfl⟩ | ⟨b,tl,rfl,hbr⟩
 ·simp only [aDst,anil,appR_nil]
  refine ⟨by simpa using hle,hs0,hb,fun eq=>?_,fun eq b hbn=>?_⟩
  ·subst eq
   exact k anil h (H.change none hlt H.1 ⟨rfl,rfl,rfl⟩ (fun f i it' c hne hi hf hinj hall=>⟨rfl,by simp⟩))
  ·refine k _ _ (H.change (it:=⟨.osl b ei.size 0 ys.length,false,ei.size,[]++ys,some (e,0)⟩) (some b) hlt (H.1.upd _ (H.1.none hbn)) ⟨by simp [Itm.blk],by simpa using Itm.held_all ⟨.osl b ei.size 0 ys.length,false,ei.size,ys,some (e,0)⟩,H.1.none hbn⟩ ?_)
   intro f i it' c hne hi hf hinj hall
   have h1:=hall i _ hi
   rw [hf] at h1
   have hbc:c≠b:=by
    rintro rfl
    obtain ⟨tl,q,_⟩:=h1.2.1
    rw [q] at hbn; cases hbn
   exact ⟨Hp.upd_ne _ _ hbc,fun e=>by cases e; exact hbc rfl⟩
 ·have e1:aDst ei.size (.osl b ei.size 0 rows.length) h = some (rows,some (b,some (e,m0))):=by simp [aDst,hbr]
  rw [e1,appR_some,keepTy_same]
  refine ⟨hle,hs0,hb,fun b' hb'=>?_⟩
  obtain ⟨H2,hb0,_⟩:=H.del j hj (b:=b) (by simp [Itm.blk]) K6a
  have hlt2:j < (its.set j dead).length:=by simpa using hlt
  have:=H2.change (j:=j) (it:=⟨.osl b' ei.size 0 (rows.length+ys.length),false,ei.size,rows++ys,some (e,0)⟩) (h':=(h.del b).upd b' ⟨ei.size,rows++ys,some (e,0)⟩) (some b') hlt2 (H2.1.upd _ (H2.1.none hb')) ⟨by simp [Itm.blk],by simpa using Itm.held_all ⟨.osl b' ei.size 0 (rows++ys).length,false,ei.size,rows++ys,some (e,0)⟩,H2.1.none hb'⟩ (by
   intro f i it' c hne hi hf hinj hall
   have h1:=hall i _ hi
   rw [hf] at h1
   have hbc:c≠b':=by
    rintro rfl
    obtain ⟨tl,q,_⟩:=h1.2.1
    rw [q] at hb'; cases hb'
   exact ⟨Hp.upd_ne _ _ hbc,fun e=>by cases e; exact hbc rfl⟩)
  rw [List.set_set] at this
  exact k _ _ this
theorem Own.len {ty:Option (Nat×Nat)} (H:Own h0 h its) (j:Nat) {x:AV} {sz:Nat} {rows:List (List AV)} (hj:its[j]? = some ⟨x,false,sz,rows,ty⟩) {t n1 n2 e:Nat} {zz:List Value} {qq:Option (List (Nat×TK))} (ht:T t = some ⟨n1,n2,zz,.sl e,qq⟩)
  (k:K ⟨put tm d (aint rows.length),h⟩):goes K d tm h (alen T t x):=by
 rcases H.cases j hj with ⟨rfl,rfl⟩ | ⟨b,tl,rfl,hb⟩
 ·simpa [alen,ht,goes,anil] using k
 ·simpa [alen,ht,goes] using k
end
def Yd (n:Int):List AV:=[.val (.int .i64 n)]
def Xj (n:Int):List AV:=[.val (.int .u8 n)]
def encK (k:IntKind) (n:Int):List AV:=[.val (.int k n)]
def encBool (b:Bool):List AV:=[.val (.bool b)]
def encStr (s:ByteArray):List AV:=[.val (.string s)]
def encSl {α:Type} (sz:Nat) (f:α→List AV) (l:List α):List AV:=[.isl sz (l.map f)]
theorem encInt_eq (n:Int):Yd n = [.val (.int .i64 n)]:=rfl
theorem encU8_eq (n:Int):Xj n = [.val (.int .u8 n)]:=rfl
theorem encK_eq (k:IntKind) (n:Int):encK k n = [.val (.int k n)]:=rfl
theorem encBool_eq (b:Bool):encBool b = [.val (.bool b)]:=rfl
theorem encStr_eq (s:ByteArray):encStr s = [.val (.string s)]:=rfl
theorem encSl_eq {α:Type} (sz:Nat) (f:α→List AV) (l:List α):encSl sz f l = [.isl sz (l.map f)]:=rfl
def Yg (l:List Int):ByteArray:=⟨(l.map fun n=>UInt8.ofNat n.toNat).toArray⟩
theorem Z4b:∀ (l:List Int),bytesOf (l.map Xj) = some (l.map fun n=>UInt8.ofNat n.toNat)
 | []=>rfl
 | n :: l=>by simp [bytesOf,Xj,Z4b l]
def lenT (o:Option TI) (n:Nat):Option AV:=match o with | some ti=>(match ti.kind with | .sl _=>some (.val (.int .i64 n)) | .arr m _=>some (.val (.int .i64 m)) | _=>none) | none=>none
theorem lenT_some {n1 n2 e n:Nat} {zz:List Value} {qq:Option (List (Nat×TK))}:lenT (some ⟨n1,n2,zz,.sl e,qq⟩) n = some (.val (.int .i64 n)):=rfl
def lenS (o:Option TI) (n:Nat):Option AV:=match o with | some ti=>(match ti.kind with | .str=>some (.val (.int .i64 n)) | .arr m _=>some (.val (.int .i64 m)) | _=>none) | none=>none
theorem lenS_some {n1 n2 n:Nat} {zz:List Value} {qq:Option (List (Nat×TK))}:lenS (some ⟨n1,n2,zz,.str,qq⟩) n = some (.val (.int .i64 n)):=rfl
def slcE (o:Option TI) (sz:Nat) (rows:List (List AV)) (l h:Option Nat):Option AV:=match o,l,h with
 | some ei,some l,some h=>if ei.size = sz∧l≤h∧h≤rows.length then some (.isl sz ((rows.take h).drop l)) else none
 | _,_,_=>none
def slcI (o:Option TI) (T:Tab) (sz:Nat) (rows:List (List AV)) (l h:Option Nat):Option AV:=match o with
 | some ti=>match ti.kind with
  | .sl e=>slcE (T e) sz rows l h
  | _=>none
 | none=>none
def slcS (o:Option TI) (s:ByteArray) (l h:Option Nat):Option AV:=match o with
 | some ti=>match ti.kind with
  | .str=>match l,h with
   | some l,some h=>if l≤h∧h≤s.size then some (.val (.string (s.extract l h))) else none
   | _,_=>none
  | _=>none
 | none=>none
section
variable {T:Tab} {t:Nat}
theorem alen_isl (sz:Nat) (rows:List (List AV)):alen T t (.isl sz rows) = lenT (T t) rows.length:=by
 unfold alen lenT aint
 cases T t with
 | none=>rfl
 | some ti=>
  obtain ⟨_,_,_,k,_⟩:=ti
  cases k <;> rfl
theorem alen_osl (b sz off n:Nat):alen T t (.osl b sz off n) = lenT (T t) n:=by
 unfold alen lenT aint
 cases T t with
 | none=>rfl
 | some ti=>
  obtain ⟨_,_,_,k,_⟩:=ti
  cases k <;> rfl
theorem alen_nil:alen T t (.val (.slice none 0 0)) = lenT (T t) 0:=by
 unfold alen lenT aint
 cases T t with
 | none=>rfl
 | some ti=>
  obtain ⟨_,_,_,k,_⟩:=ti
  cases k <;> rfl
theorem alen_str (s:ByteArray):alen T t (.val (.string s)) = lenS (T t) s.size:=by
 unfold alen lenS aint
 cases T t with
 | none=>rfl
 | some ti=>
  obtain ⟨_,_,_,k,_⟩:=ti
  cases k <;> rfl
end
section
variable {h0 h:Hp} {its:List Itm} {K:St→Prop} {d:Option Nat} {tm:List AV} {T:Tab} {α:Type} {E:α→List AV}
theorem aslice_isl {T:Tab} {t sz:Nat} {rows:List (List AV)} {lo hi:Option AV}:Zea T t (.isl sz rows) lo hi = slcI (T t) T sz rows (Vy 0 lo) (Vy rows.length hi):=by
 unfold Zea slcI
 cases T t with
 | none=>rfl
 | some ti=>
  obtain ⟨_,_,_,k,_⟩:=ti
  cases k <;> rfl
theorem slcI_some {T:Tab} {n1 n2 e sz:Nat} {zz:List Value} {qq:Option (List (Nat×TK))} {rows:List (List AV)} {l h:Option Nat}:slcI (some ⟨n1,n2,zz,.sl e,qq⟩) T sz rows l h = slcE (T e) sz rows l h:=rfl
theorem slcE_some {ei:TI} {sz l h:Nat} {rows:List (List AV)}:slcE (some ei) sz rows (some l) (some h) = if ei.size = sz∧l≤h∧h≤rows.length then some (.isl sz ((rows.take h).drop l)) else none:=rfl
theorem aslice_str {T:Tab} {t:Nat} {s:ByteArray} {lo hi:Option AV}:Zea T t (.val (.string s)) lo hi = slcS (T t) s (Vy 0 lo) (Vy s.size hi):=by
 unfold Zea slcS
 cases T t with
 | none=>rfl
 | some ti=>
  obtain ⟨_,_,_,k,_⟩:=ti
  cases k <;> rfl
theorem slcS_some {n1 n2 l h:Nat} {zz:List Value} {qq:Option (List (Nat×TK))} {s:ByteArray}:slcS (some ⟨n1,n2,zz,.str,qq⟩) s (some l) (some h) = if l≤h∧h≤s.size then some (.val (.string (s.extract l h))) else none:=rfl
def Vw (x y:AV) (sz lo hi:Nat):Prop:=(x = anil∧y = anil∧lo = 0∧hi = 0)∨∃ b n,x = .osl b sz 0 n∧y = .osl b sz lo (hi - lo)∧lo≤hi∧hi≤n
theorem Own.slc {ty:Option (Nat×Nat)} (H:Own h0 h its) (j:Nat) {x:AV} {sz:Nat} {rows:List (List AV)} (hj:its[j]? = some ⟨x,false,sz,rows,ty⟩) {t n1 n2 e:Nat} {zz:List Value} {qq:Option (List (Nat×TK))} (ht:T t = some ⟨n1,n2,zz,.sl e,qq⟩) {ei:TI} (he:T e = some ei) (hsz:ei.size = sz)
  {lo hi:Option AV} {l m:Nat} (hlo:Vy 0 lo = some l) (hhi:Vy rows.length hi = some m) (h1:l≤m) (h2:m≤rows.length) (k:∀ y,Vw x y sz l m→K ⟨put tm d y,h⟩):goes K d tm h (Zea T t x lo hi):=by
 rcases H.cases j hj with ⟨rfl,rfl⟩ | ⟨b,tl,rfl,hb⟩
 ·have hm:m = 0:=by simpa using h2
  have hl:l = 0:=by omega
  subst hm; subst hl
  have e1:Zea T t anil lo hi = some anil:=by
   have hhi':Vy 0 hi = some 0:=hhi
   simp [Zea,ht,he,hlo,hhi',anil]
  rw [e1]
  exact k _ (.inl ⟨rfl,rfl,rfl,rfl⟩)
 ·have e1:Zea T t (.osl b sz 0 rows.length) lo hi = some (.osl b sz l (m - l)):=by
   simp only [Zea,ht,he,hlo,hhi,hsz]
   simp [h1,h2]
  rw [e1]
  exact k _ (.inr ⟨b,_,rfl,rfl,h1,h2⟩)
theorem Own.srcV {ty:Option (Nat×Nat)} (H:Own h0 h its) (j:Nat) {x y:AV} {sz l m e:Nat} {rows:List (List AV)} (hj:its[j]? = some ⟨x,false,sz,rows,ty⟩) (hv:Vw x y sz l m):aSrc sz (.sl e) y h = some ((rows.take m).drop l):=by
 rcases hv with ⟨rfl,rfl,rfl,rfl⟩ | ⟨b,n,rfl,rfl,h1,h2⟩
 ·simp [aSrc,anil]
 ·obtain ⟨⟨tl,ht⟩,hn⟩:=H.getS j hj
  have hlen:l+(m - l)≤rows.length+tl.length:=by omega
  simp only [aSrc,ht,true_and]
  rw [if_pos (by simpa using hlen)]
  congr 1
  rw [List.drop_append_of_le_length (by omega),List.take_append_of_le_length (by simp; omega),List.drop_take]
theorem Own.trimV {ty:Option (Nat×Nat)} (H:Own h0 h its) (j:Nat) {x y:AV} {sz m:Nat} {rows:List (List AV)} (hj:its[j]? = some ⟨x,false,sz,rows,ty⟩) (hv:Vw x y sz 0 m):Own h0 h (its.set j ⟨y,false,sz,rows.take m,ty⟩):=by
 rcases hv with ⟨rfl,rfl,_,rfl⟩ | ⟨b,n,rfl,rfl,h1,h2⟩
 ·have:=(H.cases j hj)
  rcases this with ⟨_,rfl⟩ | ⟨b,tl,e,_⟩
  ·have hlt:=(List.getElem?_eq_some_iff.1 hj).1
   have e:its.set j ⟨anil,false,sz,([]:List (List AV)).take 0,ty⟩ = its:=by
    apply List.ext_getElem?
    intro i
    rw [List.getElem?_set]
    split
    ·rename_i q; subst q; rw [hj]; simp
    ·rfl
   rw [e]; exact H
  ·cases e
 ·have hn:=(H.getS j hj).2
  have:=H.trim j m (by omega) hj
  simpa using this
theorem Own.lenE {ty:Option (Nat×Nat)} (H:Own h0 h its) (j:Nat) {x:AV} {sz:Nat} {rows:List (List AV)} (hj:its[j]? = some ⟨x,false,sz,rows,ty⟩) {t n1 n2 e:Nat} {zz:List Value} {qq:Option (List (Nat×TK))} (ht:T t = some ⟨n1,n2,zz,.sl e,qq⟩) :
  alen T t x = some (.val (.int .i64 rows.length)):=by
 rcases H.cases j hj with ⟨rfl,rfl⟩ | ⟨b,tl,rfl,hb⟩ <;> simp [alen,ht,anil,aint]
theorem Own.ok {ty:Option (Nat×Nat)} (H:Own h0 h its) (j:Nat) {x:AV} {p:Bool} {sz:Nat} {rows:List (List AV)} (hj:its[j]? = some ⟨x,p,sz,rows,ty⟩):x.okCells = true∧x.cells = [x]:=by
 obtain ⟨hs,f,a1,a2,a3⟩:=H
 have:=a1 j _ hj
 cases hf:f j with
 | none=>
  rw [hf] at this
  have e:x = anil:=this.1
  rw [e]; exact ⟨rfl,rfl⟩
 | some c=>
  rw [hf] at this
  have e:=this.1
  have e':x = if p = true then .optr c sz 0 0 else .osl c sz 0 rows.length:=e
  rw [e']; split <;> exact ⟨rfl,rfl⟩
theorem Own.newL {ty:Option (Nat×Nat)} (H:Own h0 h its) {sz n:Nat} {rows:List (List AV)} (l:List α) (hr:rows = l.map E) (hl:l.length = n) (k:∀ b h',Own h0 h' (its++[⟨.osl b sz 0 n,false,sz,l.map E,ty⟩])→K ⟨put tm d (.osl b sz 0 n),h'⟩) :
  news K d tm h (fun b=>.osl b sz 0 n) ⟨sz,rows,ty⟩:=by subst hr; exact H.newS (by simpa using hl) k
theorem Own.newR {ty:Option (Nat×Nat)} (H:Own h0 h its) {sz:Nat} {rows:List (List AV)} (r:List AV) (hr:rows = [r]) (k:∀ b h',Own h0 h' (its++[⟨.optr b sz 0 0,true,sz,[r],ty⟩])→K ⟨put tm d (.optr b sz 0 0),h'⟩) :
  news K d tm h (fun b=>.optr b sz 0 0) ⟨sz,rows,ty⟩:=by subst hr; exact H.newP k
theorem Own.appL (H:Own h0 h its) (j:Nat) {e m0:Nat} {ei:TI} {x:AV} {sz:Nat} {out:List α} {ys:List (List AV)} (new:List α) (hj:its[j]? = some ⟨x,false,sz,out.map E,some (e,m0)⟩) (hys:ys = new.map E) (hsz:ei.size = sz) (hs0:0 < sz) (hb:0 < ei.bytes)
  (hle:(out.length+new.length) * ei.bytes≤140737488355328) (k:∀ x' h',Own h0 h' (its.set j ⟨x',false,sz,(out++new).map E,some (e,0)⟩)→K ⟨put tm d x',h'⟩):appR e ei K d tm h (aDst ei.size x h) (some ys):=by
 subst hys
 refine H.app j _ hj hsz hs0 hb (by simpa using hle) fun x' h' H'=>k x' h' ?_
 rwa [List.map_append]
theorem Own.stP {ty:Option (Nat×Nat)} (H:Own h0 h its) (j:Nat) {b sz c:Nat} {r xs:List AV} {x:AV} {ti:TI} (r':List AV) (hj:its[j]? = some ⟨.optr b sz 0 0,true,sz,[r],ty⟩) (hok:x.okCells = true) (hxs:x.cells = xs) (hl:xs.length = ti.size) (hc:c+ti.size≤r.length)
  (hr:r.take c++xs++r.drop (c+ti.size) = r') (k:∀ h',Own h0 h' (its.set j ⟨.optr b sz 0 0,true,sz,[r'],ty⟩)→K ⟨put tm d .any,h'⟩):storeP (some ti) K d tm h (.optr b sz 0 c) x:=by
 have e:=H.getP j hj
 simp only [storeP,storeT,e]
 refine ⟨trivial,hok,by rw [hxs]; exact hl,hc,?_⟩
 have:=H.setP j [r'] hj
 rw [hxs,hr]
 exact k _ this
theorem Own.stL {ty:Option (Nat×Nat)} (H:Own h0 h its) (j:Nat) {b sz c n i:Nat} {xs:List AV} {x:AV} {ti:TI} {out:List α} {v:α} (v':α) (hj:its[j]? = some ⟨.osl b sz 0 n,false,sz,out.map E,ty⟩) (hv:out[i]? = some v) (hok:x.okCells = true) (hxs:x.cells = xs) (hl:xs.length = ti.size) (hc:c+ti.size≤(E v).length)
  (hr:(E v).take c++xs++(E v).drop (c+ti.size) = E v') (k:∀ h',Own h0 h' (its.set j ⟨.osl b sz 0 n,false,sz,(out.set i v').map E,ty⟩)→K ⟨put tm d .any,h'⟩):storeP (some ti) K d tm h (.optr b sz i c) x:=by
 have hlt:=(List.getElem?_eq_some_iff.1 hv).1
 obtain ⟨b',o,q1,q2,q3,q4,q5⟩:=H.row j hj (k:=i) (r:=E v) (by simp [hv])
 cases q1
 simp only [storeP,storeT,q2,q4]
 refine ⟨q3,hok,by rw [hxs]; exact hl,hc,?_⟩
 rw [hxs,hr]
 have:=H.setS j (E v') (by simpa using hlt) hj q2
 rw [← List.map_set] at this
 exact k _ this
theorem Vsa:∀ {l:List Nat},l.Nodup→∀ (i k:Nat) (hi:i < l.length) (hk:k < l.length),l[i] = l[k]→i = k
 | x :: l,hn,0,0,_,_,_=>rfl
 | x :: l,hn,0,k+1,hi,hk,e=>by
  simp only [List.nodup_cons] at hn
  simp at e hk
  exact absurd (e ▸ List.getElem_mem hk) hn.1
 | x :: l,hn,i+1,0,hi,hk,e=>by
  simp only [List.nodup_cons] at hn
  simp at e hi
  exact absurd (e ▸ List.getElem_mem hi) hn.1
 | x :: l,hn,i+1,k+1,hi,hk,e=>by
  simp only [List.nodup_cons] at hn
  simp at e hi hk
  rw [Vsa hn.2 i k hi hk e]
theorem Own.perm (H:Own h0 h its) (l:List Nat) (hn:l.Nodup):Own h0 h (l.map fun j=>its.getD j dead):=by
 obtain ⟨hs,f,a1,a2,a3⟩:=H
 refine ⟨hs,fun i=>match l[i]? with | some j=>f j | none=>none,fun i it hi=>?_,fun i hi=>?_,fun i k c hi hk=>?_⟩
 ·rw [List.getElem?_map] at hi
  cases e:l[i]? with
  | none=>rw [e] at hi; cases hi
  | some j=>
   rw [e] at hi
   simp only [Option.map_some,Option.some.injEq] at hi
   simp only [e]
   cases e2:its[j]? with
   | none=>
    have:=a2 j (List.getElem?_eq_none_iff.1 e2)
    simp only [List.getD,e2,Option.getD_none] at hi
    subst hi
    rw [this]; exact ⟨rfl,rfl,rfl⟩
   | some it'=>
    simp only [List.getD,e2,Option.getD_some] at hi
    subst hi
    exact a1 j it' e2
 ·simp only [List.length_map] at hi
  simp only [List.getElem?_eq_none hi]
 ·simp only at hi hk
  cases e:l[i]? with
  | none=>rw [e] at hi; cases hi
  | some j=>
   cases e':l[k]? with
   | none=>rw [e'] at hk; cases hk
   | some m=>
    rw [e] at hi; rw [e'] at hk
    have:j = m:=a3 j m c hi hk
    subst this
    have h1:=(List.getElem?_eq_some_iff.1 e)
    have h2:=(List.getElem?_eq_some_iff.1 e')
    exact Vsa hn i k h1.1 h2.1 (h1.2.trans h2.2.symm)
end
def Like:List AV→List (Option AV)→Prop
 | [],[]=>True
 | x :: xs,p :: ps=>(match p with | some y=>x = y | none=>True)∧Like xs ps
 | _,_=>False
def fillD (D:Nat→AV):Nat→List (Option AV)→List AV
 | _,[]=>[]
 | n,some y :: ps=>y :: fillD D (n+1) ps
 | n,none :: ps=>D n :: fillD D (n+1) ps
theorem Like.fill:∀ {ps:List (Option AV)} {tm:List AV} (n:Nat),Like tm ps→∃ D:Nat→AV,tm = fillD D n ps
 | [],[],n,_=>⟨fun _=>.any,rfl⟩
 | some y :: ps,x :: xs,n,h=>by
  obtain ⟨h1,h2⟩:=h
  obtain ⟨D,hD⟩:=Like.fill (n+1) h2
  simp only at h1
  exact ⟨D,by rw [h1,hD]; rfl⟩
 | none :: ps,x :: xs,n,h=>by
  obtain ⟨D,hD⟩:=Like.fill (n+1) h.2
  refine ⟨fun i=>if i = n then x else D i,?_⟩
  have key:∀ (ps:List (Option AV)) (m:Nat),n < m→fillD (fun i=>if i = n then x else D i) m ps = fillD D m ps:=by
   intro ps
   induction ps with
   | nil=>intros; rfl
   | cons p ps ih=>
    intro m hm
    cases p with
    | some y=>simp only [fillD]; rw [ih _ (by omega)]
    | none=>
     have:¬ m = n:=by omega
     simp only [fillD,this,if_false]; rw [ih _ (by omega)]
  simp only [fillD,if_true]
  rw [key ps (n+1) (by omega),hD]
 | [],_ :: _,_,h=>by simp [Like] at h
 | _ :: _,[],_,h=>by simp [Like] at h
def X8 (h:Hp) (h':Hp):List AV→List AV→Prop:=fun xs ys=>∀ g w vs,HR g h w→VRs g xs vs→∃ g',g.le g'∧HR g' h' w∧VRs g' ys vs
theorem Zf.tup {h h':Hp} {xs ys:List AV} (k:X8 h h' xs ys):Zf (.tup xs) h (.tup ys) h':=by
 intro g w v hh hv
 simp only [VR] at hv
 obtain ⟨vs,rfl,hv⟩:=hv
 obtain ⟨g',a,b,c⟩:=k g w vs.toList hh hv
 exact ⟨g',a,b,by simp only [VR]; exact ⟨vs,rfl,c⟩⟩
theorem X8.refl (h:Hp) (xs:List AV):X8 h h xs xs:=fun g w vs hh hv=>⟨g,Gh.le.refl g,hh,hv⟩
theorem X8.trans {h h' h'':Hp} {xs ys zs:List AV} (a:X8 h h' xs ys) (b:X8 h' h'' ys zs):X8 h h'' xs zs:=fun g w vs hh hv=>by
 obtain ⟨g1,c1,c2,c3⟩:=a g w vs hh hv
 obtain ⟨g2,d1,d2,d3⟩:=b g1 w vs c2 c3
 exact ⟨g2,c1.trans d1,d2,d3⟩
theorem X8.at {h h':Hp} {x y:AV} (k:Zf x h y h'):∀ (l r:List AV),X8 h h' (l++x :: r) (l++y :: r)
 | [],r=>fun g w vs hh hv=>by
  cases vs with
  | nil=>simp [VRs] at hv
  | cons v vs=>
   simp only [List.nil_append,VRs] at hv ⊢
   obtain ⟨g',a,b,c⟩:=k g w v hh hv.1
   exact ⟨g',a,b,c,hv.2.mono a _ _⟩
 | z :: l,r=>fun g w vs hh hv=>by
  cases vs with
  | nil=>simp [VRs] at hv
  | cons v vs=>
   simp only [List.cons_append,VRs] at hv ⊢
   obtain ⟨g',a,b,c⟩:=X8.at k l r g w vs hh hv.2
   exact ⟨g',a,b,hv.1.mono a _ _,c⟩
theorem X8.sub {h h':Hp} {xs:List AV} (hs:h'.sub h):X8 h h' xs xs:=fun g w vs hh hv=>⟨g,Gh.le.refl g,hh.forget hs,hv⟩
def Back (h0:Hp) {ρ:Type} (enc:ρ→AV) (Q:ρ→Prop):AE→Hp→Prop:=fun e h'=>∃ r,e = .ret (enc r)∧h' = h0∧Q r
theorem Zb {T:Tab} {rs:List ResultVar} {h0:Hp} {ρ:Type} {enc:ρ→AV} {Q:ρ→Prop} {s:St} {e:AX} (he:e = .ret∨e = .norm) (r:ρ) (x:AV) {h1:Hp} (hr:Wm T rs s.tm s.h = some x) (hs:Zf x s.h (enc r) h1) (hsub:h0.sub h1) (hq:Q r):retQ T rs (Back h0 enc Q) e s:=by
 rcases he with rfl | rfl
 ·exact ⟨x,enc r,h0,hr,hs.trans (Zf.forget hsub),r,rfl,rfl,hq⟩
 ·exact ⟨x,enc r,h0,hr,hs.trans (Zf.forget hsub),r,rfl,rfl,hq⟩
theorem Zf.agg {h h':Hp} {x y:AV} (k:Zf x h y h') (l r:List AV):Zf (.agg (l++x :: r)) h (.agg (l++y :: r)) h':=by
 intro g w v hh hv
 simp only [VR] at hv
 obtain ⟨vs,rfl,hv,hl⟩:=hv
 obtain ⟨v0,v1,v2,v3⟩:=hv.get (k:=l.length) (x:=x) (by simp)
 obtain ⟨g',a,b,c⟩:=k g w v0 hh v3
 refine ⟨g',a,b,?_⟩
 simp only [VR]
 refine ⟨vs,rfl,?_,by simpa using hl⟩
 refine Zp.of_get fun j z hz=>?_
 by_cases e:j = l.length
 ·subst e
  have:z = y:=by simpa using hz.symm
  subst this
  exact ⟨v0,v1,v2,c⟩
 ·have hz':(l++x :: r)[j]? = some z:=by
   rw [← hz,List.getElem?_append,List.getElem?_append]
   split
   ·rfl
   ·rename_i hge
    have:j - l.length≠0:=by omega
    obtain ⟨m,hm⟩:=Nat.exists_eq_succ_of_ne_zero this
    rw [hm]; rfl
  obtain ⟨u,u1,u2,u3⟩:=hv.get hz'
  exact ⟨u,u1,u2,u3.mono a _ _⟩
section
variable {P:Program} {T:Tab} {K:St→Prop} {X:AV→Hp→Prop} {d:Option Nat} {tm:List AV} {h:Hp}
theorem Jc {n:Nat} {args:List AV} {ρ:Type} {enc:ρ→AV} {r:ρ} (hc:∀ h,Zo P n args h (Back h enc (· = r))):Kya P n args (enc r):=fun h=>(hc h).mono (by rintro e h' ⟨_,rfl,rfl,rfl⟩; exact ⟨rfl,rfl⟩)
theorem Zn {n:Nat} {args:List AV} {ρ:Type} {enc:ρ→AV} {Q:ρ→Prop} (hc:∀ h,Zo P n args h (Back h enc Q)) (k:∀ r,Q r→K ⟨put tm d (enc r),h⟩):calls P K X d tm h n args:=
 Z1 (hc h) (by rintro e h' ⟨r,rfl,rfl,hq⟩; exact k r hq)
theorem Zo.lent {n:Nat} {args args':List AV} {ρ:Type} {enc:ρ→AV} {Q:ρ→Prop} (hc:∀ h,Zo P n args' h (Back h enc Q)) (hf:∀ r,flat (enc r) = true) (hl:Lents h args args'):Zo P n args h (Back h enc Q):=by
 refine ⟨(hc h).1,fun g w vs hv hh=>?_⟩
 obtain ⟨hle,hall⟩:=hh.all
 refine ((hc ⟨fun _=>none,h.r⟩).2 (g.all h w) w vs (hl.run hh hv) hall).mono ?_
 rintro e w' ⟨g2,h2,E,a,b,⟨r,rfl,rfl,hq⟩,dd⟩
 cases e with
 | returned v=>
  have same:∀ k,(h k).isSome→w'.heap[k]? = w.heap[k]?:=by
   intro k hk
   obtain ⟨ob,ho⟩:=Option.isSome_iff_exists.1 hk
   obtain ⟨q1,c,t,⟨fr,q2,qt⟩,q3,q4⟩:=hh.ob k ob ho
   rw [q2]
   refine b.fz k _ (a.fz k _ ?_)
   simp [Gh.all,ho,q2]
  let g3:Gh:={ g2 with fz:=fun k=>if (h k).isSome then none else g2.fz k }
  have hg3:g.le g3:=by
   refine ⟨a.w0,fun k o hk=>?_,fun k y hk=>a.shp k y hk⟩
   show (if (h k).isSome then none else g2.fz k) = some o
   split
   ·rename_i hs
    obtain ⟨ob,ho⟩:=Option.isSome_iff_exists.1 hs
    have:=(hh.ob k ob ho).1.1
    rw [this] at hk; cases hk
   ·refine a.fz k o ?_
    simp only [Gh.all]
    rw [if_neg (by assumption)]; exact hk
  refine ⟨g3,h,.ret (enc r),hg3,?_,⟨r,rfl,rfl,hq⟩,flat_vr (hf r) dd⟩
  refine ⟨b.os,b.tape,b.output,b.size,fun k o hk=>?_,b.shp,fun k o hk=>?_,Z9a hg3.fz hh.gl,fun x y hx=>⟨(b.raw x y hx).1,?_⟩⟩
  rotate_right
  ·show (if (h x).isSome then none else g2.fz x) = none
   rw [(b.raw x y hx).2]; split <;> rfl
  ·have:(if (h k).isSome then none else g2.fz k) = some o:=hk
   split at this
   ·cases this
   ·exact b.fz k o this
  ·obtain ⟨q1,c,t,⟨fr,q2,qt⟩,q3,q4⟩:=hh.ob k o hk
   refine ⟨⟨?_,q1.2.mono fun y hy=>hg3.shp _ _ hy⟩,c,t,⟨fr,?_,qt⟩,hg3.shp _ _ q3,q4.mono hg3 c o.sz 0 o.rows⟩
   ·show (if (h k).isSome then none else g2.fz k) = none
    rw [hk]; rfl
   ·rw [same k (by rw [hk]; rfl)]; exact q2
 | panicked c=>exact dd.elim
 | outgrown=>exact dd.elim
theorem Kk {n:Nat} {args args':List AV} {ρ:Type} {enc:ρ→AV} {Q:ρ→Prop} (hc:∀ h,Zo P n args' h (Back h enc Q)) (hf:∀ r,flat (enc r) = true) (hl:Lents h args args') (k:∀ r,Q r→K ⟨put tm d (enc r),h⟩):calls P K X d tm h n args:=
 Z1 (Zo.lent hc hf hl) (by rintro e h' ⟨r,rfl,rfl,hq⟩; exact k r hq)
theorem Own.src {ty:Option (Nat×Nat)} {h0 h:Hp} {its:List Itm} (H:Own h0 h its) (j:Nat) {x:AV} {sz e:Nat} {rows:List (List AV)} (hj:its[j]? = some ⟨x,false,sz,rows,ty⟩):aSrc sz (.sl e) x h = some rows:=by
 rcases H.cases j hj with ⟨rfl,rfl⟩ | ⟨b,tl,rfl,hb⟩
 ·rfl
 ·simp [aSrc,hb]
theorem aSrc_isl {sz e:Nat} {rows:List (List AV)}:aSrc sz (.sl e) (.isl sz rows) h = some rows:=by simp [aSrc]
theorem aSrc_nil {sz e:Nat}:aSrc sz (.sl e) (.val (.slice none 0 0)) h = some []:=rfl
theorem Kh (c:Bool) (p:St→Prop) (s:St) (q:St→Prop) (t:St):Yaa (.val (.bool c)) true p s q t = ((c = true→p s)∧(c = false→q t)):=by
 cases c <;> simp [Yaa]
theorem Xh (c:Bool) (p:St→Prop) (s:St) (q:St→Prop) (t:St):Yaa (.val (.bool c)) false p s q t = ((c = true→q t)∧(c = false→p s)):=by
 cases c <;> simp [Yaa]
theorem Own.text {ty:Option (Nat×Nat)} {h0 h:Hp} {its:List Itm} (H:Own h0 h its) (j:Nat) {x:AV} {l:List Int} (hj:its[j]? = some ⟨x,false,1,l.map Xj,ty⟩) {s d e n1 n2 m1 m2 k1 k2:Nat} {z1 z2 z3:List Value} {q1 q2 q3:Option (List (Nat×TK))}
  (hs:T s = some ⟨n1,n2,z1,.sl e,q1⟩) (hd:T d = some ⟨m1,m2,z2,.str,q2⟩) (he:T e = some ⟨k1,k2,z3,.int .u8,q3⟩):Ybb T s d x h = some (.val (.string (Yg l))):=by
 simp only [Ybb,hs,hd,he,H.src j hj,Z4b]; rfl
section
variable {tk:TK} {s1 s2:ByteArray}
theorem abin_slss:abin .lss tk (.val (.string s1)) (.val (.string s2)) = some (.val (.bool (Op.bytesLess s1.toList s2.toList))):=rfl
theorem abin_sleq:abin .leq tk (.val (.string s1)) (.val (.string s2)) = some (.val (.bool (Op.bytesLess s1.toList s2.toList || (s1.toList == s2.toList)))):=rfl
theorem abin_sgtr:abin .gtr tk (.val (.string s1)) (.val (.string s2)) = some (.val (.bool (!(Op.bytesLess s1.toList s2.toList || (s1.toList == s2.toList))))):=rfl
theorem abin_sgeq:abin .geq tk (.val (.string s1)) (.val (.string s2)) = some (.val (.bool (!(Op.bytesLess s1.toList s2.toList)))):=rfl
end
theorem aOp_mono2 {o:AO} {K':St→Prop} {X':AV→Hp→Prop} {s:St} (hk:∀ s,K s→K' s) (hX:∀ x h,X x h→X' x h) (H:aOp P T o K X s):aOp P T o K' X' s:=by
 unfold aOp at *
 split at H
 ·exact Kwa (fun y h'=>hk _) hX H
 ·exact hk _ H
 ·exact H
theorem aOps_mono {K':St→Prop} {X X':List AV→AV→Hp→Prop} (hk:∀ s,K s→K' s) (hX:∀ tm x h,X tm x h→X' tm x h):∀ (os:List AO) (s:St),aOps P T K X os s→aOps P T K' X' os s
 | [],s,H=>hk s H
 | o :: os,s,H=>aOp_mono2 (fun s=>aOps_mono hk hX os s) (hX s.tm) H
theorem Jca {f:Nat→AO} {K':St→Prop} {X':AV→Hp→Prop} (hk:∀ s,K s→K' s) (hX:∀ x h,X x h→X' x h):∀ (p:Plan) (s:St),Ypa P T f K X p s→Ypa P T f K' X' p s
 | .done,s,H=>hk s H
 | .op i p,s,H=>aOp_mono2 (fun s=>Jca hk hX p s) hX H
 | .both p q,s,H=>⟨Jca hk hX p s H.1,Jca hk hX q s H.2⟩
theorem athen_mono {n n':St→Prop} {Q Q':AX→St→Prop} (hn:∀ s,n s→n' s) (hq:∀ e s,Q e s→Q' e s) (e:AX) (s:St) (H:Y3a n Q e s):Y3a n' Q' e s:=by
 cases e <;> first | exact hn _ H | exact hq _ _ H
theorem ablock_mono {id:Nat} {Q Q':AX→St→Prop} (hq:∀ e s,Q e s→Q' e s) (e:AX) (s:St) (H:W3a id Q e s):W3a id Q' e s:=by
 cases e <;> try exact hq _ _ H
 simp only [W3a] at *
 split at H
 ·rename_i e; rw [if_pos e]; exact hq _ _ H
 ·rename_i e; rw [if_neg e]; exact hq _ _ H
theorem Wl:∀ (c:AC) {Q Q':AX→St→Prop} (hq:∀ e s,Q e s→Q' e s) (s:St),awp P T c Q s→awp P T c Q' s
 | .skip,_,_,hq,s,H=>hq _ _ H
 | .reg os,_,_,hq,s,H=>aOps_mono (hq _) (fun tm x h=>hq _ _) os s H
 | .draw os p,_,_,hq,s,H=>Jca (hq _) (fun x h=>hq _ _) p s H
 | .seq a b,_,_,hq,s,H=>Wl a (athen_mono (fun s=>Wl b hq s) hq) s H
 | .cond c a b,_,_,hq,s,H=>by
  simp only [awp] at *
  split at H <;> try exact H
  split at H
  ·rename_i e; rw [if_pos e]; exact Wl a hq s H
  ·rename_i e; rw [if_neg e]; exact Wl b hq s H
 | .block id b,_,_,hq,s,H=>Wl b (ablock_mono hq) s H
 | .loop b,_,_,hq,s,H=>by
  obtain ⟨I,h1,h2⟩:=H
  exact ⟨I,h1,fun n s' hi=>Wl b (athen_mono (fun _ h=>h) hq) s' (h2 n s' hi)⟩
 | .exit id,_,_,hq,s,H=>hq _ _ H
 | .ret,_,_,hq,s,H=>hq _ _ H
 | .ghost,_,_,hq,s,H=>by
  obtain ⟨s',h1,h2⟩:=H
  exact ⟨s',h1,hq _ _ h2⟩
 | .scope b,_,_,hq,s,H=>Wl b hq s H
 | .range f ps as_ bd,_,_,hq,s,H=>by
  simp only [awp] at *
  split at H <;> try exact H
  intro l gb o ho hl hy
  refine (H l gb o ho hl hy).mono ?_
  rintro e h' ⟨x,pe,st,h1,h2,h3⟩
  refine ⟨x,pe,st,h1,h2,?_⟩
  unfold apend at *
  split at h3 <;> first | exact hq _ _ h3 | exact h3
theorem Xe {a b:AC} {Q:AX→St→Prop} {s:St} (M:St→Prop) (h1:awp P T a (Y3a M Q) s) (h2:∀ s',M s'→awp P T b Q s'):awp P T (.seq a b) Q s:=
 Wl a (athen_mono h2 (fun _ _ h=>h)) s h1
end
theorem Ym {T:Tab} {rs:List ResultVar} {Q:AE→Hp→Prop} {s:St} {e:AX} (he:e = .ret∨e = .norm) {x x':AV} {h':Hp} (hr:Wm T rs s.tm s.h = some x) (hs:Zf x s.h x' h') (hq:Q (.ret x') h'):retQ T rs Q e s:=by
 rcases he with rfl | rfl <;> exact ⟨x,x',h',hr,hs,hq⟩
def Hs (h h':Hp):Prop:=∀ g w,HR g h w→∃ g',g.le g'∧HR g' h' w
theorem Hs.refl (h:Hp):Hs h h:=fun g w hh=>⟨g,Gh.le.refl g,hh⟩
theorem Hs.trans {a b c:Hp} (p:Hs a b) (q:Hs b c):Hs a c:=fun g w hh=>by
 obtain ⟨g1,c1,c2⟩:=p g w hh
 obtain ⟨g2,d1,d2⟩:=q g1 w c2
 exact ⟨g2,c1.trans d1,d2⟩
theorem Hs.shift {h h':Hp} (p:Hs h h') (x:AV):Zf x h x h':=fun g w v hh hv=>by
 obtain ⟨g',a,b⟩:=p g w hh
 exact ⟨g',a,b,hv.mono a _ _⟩
theorem Hs.retell {h h':Hp} (p:Hs h h') (tm:List AV):Xg ⟨tm,h⟩ ⟨tm,h'⟩:=fun D g a w hr=>by
 obtain ⟨g',c1,c2⟩:=p g w hr.hr
 exact ⟨g',c1,hr.tm.mono c1,c2,hr.df.mono c1⟩
theorem Hs.cell {h h':Hp} {b i k:Nat} {o:Ob} {row:List AV} {x x':AV} (hb:h b = some o) (hb':h' b = some o) (hr:o.rows[i]? = some row) (hk:row[k]? = some x) (hs:Zf x h x' h'):Hs h (h'.upd b ⟨o.sz,o.rows.set i (row.set k x'),o.ty⟩):=by
 intro g w hh
 obtain ⟨q1,c,e,⟨fr,q2,qt⟩,q3,q4⟩:=hh.ob b o hb
 obtain ⟨l1,l2⟩:=q4.get hr
 obtain ⟨v0,v1,v2,v3⟩:=l2.get hk
 obtain ⟨g',c1,c2,c3⟩:=hs g w v0 hh v3
 refine ⟨g',c1,⟨c2.os,c2.tape,c2.output,c2.size,c2.fz,c2.shp,fun b2 o2 h2=>?_,c2.gl,c2.raw⟩⟩
 by_cases e2:b2 = b
 ·subst e2
  simp only [Hp.upd_same] at h2; cases h2
  obtain ⟨p1,c',e',p2,p3,p4⟩:=c2.ob b2 o hb'
  refine ⟨p1,c',e',p2,p3,Z0.of_get fun j r hj=>?_⟩
  have ec:c' = c:=by obtain ⟨_,p2,_⟩:=p2; rw [p2] at q2; cases q2; rfl
  subst ec
  rw [List.getElem?_set] at hj
  split at hj
  ·rename_i ej; subst ej
   split at hj <;> cases hj
   refine ⟨by simpa using l1,Zp.of_get fun m y hy=>?_⟩
   rw [List.getElem?_set] at hy
   split at hy
   ·rename_i em; subst em
    split at hy <;> cases hy
    exact ⟨v0,v1,v2,c3⟩
   ·exact (p4.get hr).2.get hy
  ·exact p4.get hj
 ·simp only [Hp.upd_ne _ _ e2] at h2
  exact c2.ob b2 o2 h2
theorem Own.blkOf {ty:Option (Nat×Nat)} {h0 h:Hp} {its:List Itm} (H:Own h0 h its) (j:Nat) {y:AV} {p:Bool} {sz:Nat} {rows:List (List AV)} (hj:its[j]? = some ⟨y,p,sz,rows,ty⟩) (hne:rows≠[]) :
  ∃ b tl,(Itm.mk y p sz rows ty).blk b∧h b = some ⟨sz,rows++tl,ty⟩∧h0 b = none∧(p = true→tl = []):=by
 obtain ⟨hs,f,a1,a2,a3⟩:=H
 have:=a1 j _ hj
 cases hf:f j with
 | none=>rw [hf] at this; exact absurd this.2.1 hne
 | some c=>
  rw [hf] at this
  obtain ⟨tl,q,hp⟩:=this.2.1
  exact ⟨c,tl,this.1,q,this.2.2,hp⟩
theorem blk_inj {it:Itm} {b c:Nat} (hb:it.blk b) (hc:it.blk c):c = b:=by
 simp only [Itm.blk] at hb hc
 rw [hb] at hc
 split at hc <;> (cases hc; rfl)
theorem blk_ne_nil {it:Itm} {b:Nat} (hb:it.blk b):it.x≠anil:=by
 simp only [Itm.blk] at hb
 rw [hb]; split <;> (intro e; cases e)
theorem Own.rows {ty:Option (Nat×Nat)} {h0 h:Hp} {its:List Itm} (H:Own h0 h its) (j:Nat) {y:AV} {p:Bool} {sz b:Nat} {rows rows' tl:List (List AV)} (hj:its[j]? = some ⟨y,p,sz,rows,ty⟩) (hb:(Itm.mk y p sz rows ty).blk b) (hb0:h0 b = none) (htl:p = true→tl = []) (hl:rows'.length = rows.length) :
  Own h0 (h.upd b ⟨sz,rows'++tl,ty⟩) (its.set j ⟨y,p,sz,rows',ty⟩):=by
 have hlt:=(List.getElem?_eq_some_iff.1 hj).1
 refine H.change (some b) hlt (H.1.upd _ hb0) ⟨?_,⟨tl,by simp,htl⟩,hb0⟩ ?_
 ·simp only [Itm.blk] at hb ⊢
  rw [hl]; exact hb
 intro f i it' c hne hi hf hinj hall
 have h1:=hall j _ hj
 have hbc:c≠b:=by
  rintro rfl
  cases hfj:f j with
  | none=>rw [hfj] at h1; exact blk_ne_nil hb h1.1
  | some d=>
   rw [hfj] at h1
   have:=blk_inj hb h1.1
   subst this; exact hne (hinj i j _ hf hfj)
 exact ⟨Hp.upd_ne _ _ hbc,fun e=>by cases e; exact hbc rfl⟩
theorem Own.cell {ty2:Option (Nat×Nat)} {ty:Option (Nat×Nat)} {h0 h:Hp} {its:List Itm} (H:Own h0 h its) (j i:Nat) (hne:i≠j) (r k:Nat) {y x:AV} {p:Bool} {sz sz2:Nat} {rows rows2:List (List AV)} {row:List AV} (hj:its[j]? = some ⟨y,p,sz,rows,ty⟩) (hi:its[i]? = some ⟨x,false,sz2,rows2,ty2⟩)
  (hr:rows[r]? = some row) (hk:row[k]? = some x):∃ h',Hs h h'∧Own h0 h' ((its.set i dead).set j ⟨y,p,sz,rows.set r (row.set k (.isl sz2 rows2)),ty⟩):=by
 have hrn:rows≠[]:=by rintro rfl; simp at hr
 have hrlt:=(List.getElem?_eq_some_iff.1 hr).1
 obtain ⟨b,tl,hb,hbr,hb0,htl⟩:=H.blkOf j hj hrn
 have hj1:(its.set i dead)[j]? = some ⟨y,p,sz,rows,ty⟩:=by rw [List.getElem?_set_ne hne]; exact hj
 have hr2:(Ob.mk sz (rows++tl) ty).rows[r]? = some row:=by simp only; rw [List.getElem?_append,if_pos hrlt]; exact hr
 have eset:(rows++tl).set r (row.set k (.isl sz2 rows2)) = rows.set r (row.set k (.isl sz2 rows2))++tl:=by rw [List.set_append,if_pos hrlt]
 rcases H.cases i hi with ⟨rfl,rfl⟩ | ⟨b2,tl2,rfl,hb2⟩
 ·refine ⟨_,Hs.cell hbr hbr hr2 hk (Zf.nil h sz2),?_⟩
  simp only [eset]
  exact (H.drop i).rows j hj1 hb hb0 htl (by simp)
 ·have hbb:b≠b2:=by
   rintro rfl
   obtain ⟨hs,f,a1,a2,a3⟩:=H
   have h1:=a1 j _ hj
   have h2:=a1 i _ hi
   cases hf:f j with
   | none=>rw [hf] at h1; exact hrn h1.2.1
   | some c=>
    rw [hf] at h1
    cases hf2:f i with
    | none=>rw [hf2] at h2; exact K6a h2.1
    | some d=>
     rw [hf2] at h2
     have e1:=blk_inj hb h1.1
     have e2:(Itm.mk (.osl b sz2 0 rows2.length) false sz2 rows2 ty2).blk b:=by simp [Itm.blk]
     have e3:=blk_inj e2 h2.1
     subst e1; subst e3
     exact hne (a3 i j _ hf2 hf)
  have sh:=Zf.freeze (off:=0) (len:=rows2.length) hb2 rfl (by simp)
  have e4:((rows2++tl2).drop 0).take rows2.length = rows2:=by simp
  simp only [e4] at sh
  refine ⟨_,Hs.cell hbr (by rw [Hp.del_ne _ hbb]; exact hbr) hr2 hk sh,?_⟩
  simp only [eset]
  have H2:=(H.del i hi (b:=b2) (by simp [Itm.blk]) K6a).1
  exact H2.rows j hj1 hb hb0 htl (by simp)
section
variable {h0 h:Hp} {its:List Itm} {α:Type} {E:α→List AV}
end
section
variable {P:Program} {T:Tab} {K:St→Prop} {X:AV→Hp→Prop} {d:Option Nat} {tm:List AV} {h:Hp}
def ixof:List Nat→Nat→Option Nat
 | [],_=>none
 | j :: l,i=>if j = i then some 0 else (ixof l i).map (·+1)
theorem Y1b:∀ {l:List Nat} {i m:Nat},ixof l i = some m→l[m]? = some i
 | j :: l,i,m,h=>by
  simp only [ixof] at h
  split at h
  ·rename_i e; cases h; simp [e]
  ·cases e:ixof l i with
   | none=>rw [e] at h; cases h
   | some k=>rw [e] at h; cases h; simpa using Y1b e
theorem ixof_none:∀ {l:List Nat} {i:Nat},ixof l i = none→i∉l
 | [],_,_=>by simp
 | j :: l,i,h=>by
  simp only [ixof] at h
  split at h
  ·cases h
  ·rename_i hne
   cases e:ixof l i with
   | none=>
    have:=ixof_none e
    simp only [List.mem_cons,not_or]
    exact ⟨fun q=>hne q.symm,this⟩
   | some k=>rw [e] at h; cases h
theorem sets_get:∀ (l:List Nat) (sub its:List Itm) (i:Nat),l.Nodup→sub.length = l.length→((l.zip sub).foldl (fun a p=>a.set p.1 p.2) its)[i]? = match ixof l i with
  | some m=>if i < its.length then sub[m]? else none
  | none=>its[i]?
 | [],sub,its,i,_,_=>by simp [ixof]
 | j :: l,[],its,i,_,h=>by simp at h
 | j :: l,s :: sub,its,i,hn,h=>by
  simp only [List.nodup_cons] at hn
  simp only [List.zip_cons_cons,List.foldl_cons,ixof]
  rw [sets_get l sub _ i hn.2 (by simpa using h)]
  by_cases e:j = i
  ·subst e
   have:ixof l j = none:=by
    cases q:ixof l j with
    | none=>rfl
    | some m=>exact absurd (List.mem_of_getElem? (Y1b q)) hn.1
   simp only [this,if_true,List.getElem?_set]
   by_cases hlt:j < its.length <;> simp [hlt]
  ·simp only [e,if_false]
   cases q:ixof l i with
   | none=>simp only [Option.map_none]; rw [List.getElem?_set_ne e]
   | some m=>simp
theorem sets_length:∀ (l:List (Nat×Itm)) (its:List Itm),(l.foldl (fun a p=>a.set p.1 p.2) its).length = its.length
 | [],its=>rfl
 | p :: l,its=>by rw [List.foldl_cons,sets_length l]; simp
theorem Own.frameS {h0 h:Hp} {its:List Itm} (H:Own h0 h its) (l:List Nat) (hn:l.Nodup):∃ h1,Own h1 h (l.map fun j=>its.getD j dead) ∧
  (∀ (h':Hp) (sub:List Itm),sub.length = l.length→Own h1 h' sub→Own h0 h' ((l.zip sub).foldl (fun a p=>a.set p.1 p.2) its))∧h0.sub h1:=by
 have Hp0:=H.perm l hn
 obtain ⟨hs,f,a1,a2,a3⟩:=H
 let inl:Nat→Bool:=fun b=>l.any fun j=>f j == some b
 have inl_iff:∀ b,inl b = true↔∃ j∈l,f j = some b:=by
  intro b; simp [inl]
 let h1:Hp:=⟨fun b=>if inl b then none else h b,h.r⟩
 have lt_of:∀ i b,f i = some b→i < its.length:=fun i b hf=>by
  rcases Nat.lt_or_ge i its.length with q | q
  ·exact q
  ·rw [a2 i q] at hf; cases hf
 have h0_of:∀ i b,f i = some b→h0 b = none∧h b≠none:=fun i b hf=>by
  have:=a1 i _ (List.getElem?_eq_getElem (lt_of i b hf))
  rw [hf] at this
  obtain ⟨tl,q,_⟩:=this.2.1
  exact ⟨this.2.2,by rw [q]; simp⟩
 have h01:∀ b o,h0 b = some o→h1 b = some o:=fun b o hb=>by
  have:inl b = false:=by
   cases e:inl b with
   | false=>rfl
   | true=>
    obtain ⟨j,_,hf⟩:=(inl_iff b).1 e
    rw [(h0_of j b hf).1] at hb; cases hb
  simp only [h1,this,Bool.false_eq_true,if_false]
  exact hs b o hb
 refine ⟨h1,⟨⟨fun b o hb=>?_,fun _ _ hb=>hb⟩,fun i=>match l[i]? with | some j=>f j | none=>none,fun i it hi=>?_,fun i hi=>?_,fun i k c hi hk=>?_⟩,fun h' sub hlen H'=>?_,⟨h01,hs.r⟩⟩
 ·simp only [h1] at hb
  split at hb
  ·cases hb
  ·exact hb
 ·rw [List.getElem?_map] at hi
  cases e:l[i]? with
  | none=>rw [e] at hi; cases hi
  | some j=>
   rw [e] at hi
   simp only [Option.map_some,Option.some.injEq] at hi
   simp only [e]
   cases e2:its[j]? with
   | none=>
    have:=a2 j (List.getElem?_eq_none_iff.1 e2)
    simp only [List.getD,e2,Option.getD_none] at hi
    subst hi
    rw [this]; exact ⟨rfl,rfl,rfl⟩
   | some it'=>
    simp only [List.getD,e2,Option.getD_some] at hi
    subst hi
    have:=a1 j it' e2
    cases hf:f j with
    | none=>rw [hf] at this; exact this
    | some b=>
     rw [hf] at this
     refine ⟨this.1,this.2.1,?_⟩
     have:inl b = true:=(inl_iff b).2 ⟨j,List.mem_of_getElem? e,hf⟩
     simp [h1,this]
 ·simp only [List.length_map] at hi
  simp only [List.getElem?_eq_none hi]
 ·simp only at hi hk
  cases e:l[i]? with
  | none=>rw [e] at hi; cases hi
  | some j=>
   cases e':l[k]? with
   | none=>rw [e'] at hk; cases hk
   | some m=>
    rw [e] at hi; rw [e'] at hk
    have:j = m:=a3 j m c hi hk
    subst this
    have g1:=(List.getElem?_eq_some_iff.1 e)
    have g2:=(List.getElem?_eq_some_iff.1 e')
    exact Vsa hn i k g1.1 g2.1 (g1.2.trans g2.2.symm)
 ·obtain ⟨hs',f',b1,b2,b3⟩:=H'
  have f'_lt:∀ m b,f' m = some b→m < sub.length:=fun m b hf=>by
   rcases Nat.lt_or_ge m sub.length with q | q
   ·exact q
   ·rw [b2 m q] at hf; cases hf
  have f'_h1:∀ m b,f' m = some b→h1 b = none:=fun m b hf=>by
   have:=b1 m _ (List.getElem?_eq_getElem (f'_lt m b hf))
   rw [hf] at this
   exact this.2.2
  have out_h1:∀ i b,ixof l i = none→f i = some b→h1 b = h b∧h b≠none:=fun i b hi hf=>by
   have:inl b = false:=by
    cases e:inl b with
    | false=>rfl
    | true=>
     obtain ⟨j,hj,hf2⟩:=(inl_iff b).1 e
     have:=a3 i j b hf hf2
     subst this
     exact absurd hj (ixof_none hi)
   exact ⟨by simp [h1,this],(h0_of i b hf).2⟩
  refine ⟨⟨fun b o hb=>hs' b o (h01 b o hb),fun b o hb=>hs'.r b o (hs.r b o hb)⟩,fun i=>match ixof l i with | some m=>if i < its.length then f' m else none | none=>f i,fun i it hi=>?_,fun i hi=>?_,fun i k c hi hk=>?_⟩
  ·rw [sets_get l sub its i hn hlen] at hi
   cases e:ixof l i with
   | none=>
    rw [e] at hi
    simp only [e] at hi ⊢
    have:=a1 i it hi
    cases hf:f i with
    | none=>rw [hf] at this; exact this
    | some b=>
     rw [hf] at this
     refine ⟨this.1,?_,this.2.2⟩
     obtain ⟨q1,q2⟩:=out_h1 i b e hf
     obtain ⟨tl,q,hp⟩:=this.2.1
     exact ⟨tl,hs' b _ (q1.trans q),hp⟩
   | some m=>
    rw [e] at hi
    simp only [e] at hi ⊢
    split at hi <;> try cases hi
    rename_i hlt
    simp only [hlt,if_true]
    have:=b1 m it hi
    cases hf:f' m with
    | none=>rw [hf] at this; exact this
    | some b=>
     rw [hf] at this
     refine ⟨this.1,this.2.1,?_⟩
     cases hb:h0 b with
     | none=>rfl
     | some o=>have:=h01 b o hb; rw [f'_h1 m b hf] at this; cases this
  ·rw [sets_length] at hi
   cases e:ixof l i with
   | none=>simp only [e]; exact a2 i hi
   | some m=>
    have:¬ i < its.length:=by omega
    simp only [e,this,if_false]
  ·simp only at hi hk
   cases ei:ixof l i with
   | none=>
    rw [ei] at hi
    cases ek:ixof l k with
    | none=>rw [ek] at hk; exact a3 i k c hi hk
    | some m=>
     rw [ek] at hk
     simp only at hi hk
     split at hk <;> try cases hk
     obtain ⟨q1,q2⟩:=out_h1 i c ei hi
     rw [f'_h1 m c hk] at q1
     exact absurd q1.symm q2
   | some n=>
    rw [ei] at hi
    simp only at hi
    split at hi <;> try cases hi
    cases ek:ixof l k with
    | none=>
     rw [ek] at hk
     simp only at hk
     obtain ⟨q1,q2⟩:=out_h1 k c ek hk
     rw [f'_h1 n c hi] at q1
     exact absurd q1.symm q2
    | some m=>
     rw [ek] at hk
     simp only at hk
     split at hk <;> try cases hk
     have:=b3 n m c hi hk
     subst this
     have g1:=Y1b ei
     have g2:=Y1b ek
     rw [g1] at g2; cases g2; rfl
end
theorem Own.frame {h0 h:Hp} {its:List Itm} (H:Own h0 h its) (l:List Nat) (hn:l.Nodup):∃ h1,Own h1 h (l.map fun j=>its.getD j dead) ∧
  ∀ (h':Hp) (sub:List Itm),sub.length = l.length→Own h1 h' sub→Own h0 h' ((l.zip sub).foldl (fun a p=>a.set p.1 p.2) its):=
 let ⟨h1,a,b,_⟩:=H.frameS l hn; ⟨h1,a,b⟩
theorem Own.joined {h0 h h':Hp} {its its':List Itm} (H:Own h0 h its) (H':Own h h' its'):Own h0 h' (its++its'):=by
 obtain ⟨hs,f,a1,a2,a3⟩:=H
 obtain ⟨hs',f',b1,b2,b3⟩:=H'
 have fb:∀ i b,f i = some b→∃ o,h b = some o:=fun i b e=>by
  rcases Nat.lt_or_ge i its.length with q | q
  ·have:=a1 i _ (List.getElem?_eq_getElem q)
   rw [e] at this
   obtain ⟨tl,q,_⟩:=this.2.1
   exact ⟨_,q⟩
  ·rw [a2 i q] at e; cases e
 have fb':∀ i b,f' i = some b→h b = none:=fun i b e=>by
  rcases Nat.lt_or_ge i its'.length with q | q
  ·have:=b1 i _ (List.getElem?_eq_getElem q)
   rw [e] at this; exact this.2.2
  ·rw [b2 i q] at e; cases e
 refine ⟨hs.trans hs',fun i=>if i < its.length then f i else f' (i - its.length),fun i it hi=>?_,fun i hi=>?_,fun i k c hi hk=>?_⟩
 ·rw [List.getElem?_append] at hi
  split at hi
  ·rename_i hlt
   simp only [hlt,if_true]
   have:=a1 i it hi
   cases e:f i with
   | none=>rw [e] at this; exact this
   | some b=>
    rw [e] at this
    obtain ⟨o,ho⟩:=fb i b e
    refine ⟨this.1,?_,this.2.2⟩
    have e2:=this.2.1
    rw [ho] at e2
    rw [hs' b o ho]; exact e2
  ·rename_i hge
   have hge':¬ i < its.length:=hge
   simp only [hge',if_false]
   have:=b1 _ it hi
   cases e:f' (i - its.length) with
   | none=>rw [e] at this; exact this
   | some b=>
    rw [e] at this
    exact ⟨this.1,this.2.1,hs.none (fb' _ b e)⟩
 ·rw [List.length_append] at hi
  have:¬ i < its.length:=by omega
  simp only [this,if_false]
  exact b2 _ (by omega)
 ·simp only at hi hk
  split at hi <;> split at hk
  ·exact a3 i k c hi hk
  ·obtain ⟨o,ho⟩:=fb i c hi
   rw [fb' _ c hk] at ho; cases ho
  ·obtain ⟨o,ho⟩:=fb k c hk
   rw [fb' _ c hi] at ho; cases ho
  ·have:=b3 _ _ c hi hk; omega
theorem Yx {T:Tab} {rs:List ResultVar} {Q:AE→Hp→Prop} {s:St} {e:AX} (he:e = .ret∨e = .norm) {x:AV} (hr:Wm T rs s.tm s.h = some x) (hq:Q (.ret x) s.h):retQ T rs Q e s:=by
 rcases he with rfl | rfl <;> exact ⟨x,x,s.h,hr,Zf.refl _ _,hq⟩
def Zd (s:ByteArray):List Int:=s.data.toList.map fun b=>(b.toNat:Int)
theorem strInts_rows (s:ByteArray):(s.data.toList.map fun b=>[Yab b.toNat]) = (Zd s).map Xj:=by
 unfold Zd; rw [List.map_map]; rfl
theorem Zt (s:ByteArray):(Zd s).length = s.size:=by unfold Zd; rw [List.length_map]; rfl
theorem strInts_inj {a b:ByteArray} (e:Zd a = Zd b):a = b:=by
 have:a.data.toList = b.data.toList:=by
  have key:∀ (x y:List UInt8),(x.map fun b=>(b.toNat:Int)) = (y.map fun b=>(b.toNat:Int))→x = y:=by
   intro x
   induction x with
   | nil=>intro y h; cases y with
    | nil=>rfl
    | cons c cs=>simp at h
   | cons c cs ih=>intro y h; cases y with
    | nil=>simp at h
    | cons d ds=>
     simp only [List.map_cons,List.cons.injEq] at h
     have h1:c = d:=UInt8.toNat_inj.1 (by have:=h.1; omega)
     rw [ih ds h.2,h1]
  exact key _ _ e
 cases a; cases b; congr 1; exact Array.ext' this
section
variable {K:St→Prop} {dd:Option Nat} {tm:List AV} {h:Hp} {T:Tab}
theorem Xma {s d e n1 n2 m1 m2 k2:Nat} {z1 z2 z3:List Value} {q1 q2 q3:Option (List (Nat×TK))} {t:ByteArray} (hs:T s = some ⟨n1,n2,z1,.str,q1⟩) (hd:T d = some ⟨m1,m2,z2,.sl e,q2⟩) (he:T e = some ⟨1,k2,z3,.int .u8,q3⟩) :
  textK (Ybb T s d (.val (.string t)) h) T s d K dd tm h (.val (.string t)) = news K dd tm h (fun b=>.osl b 1 0 t.size) ⟨1,(Zd t).map Xj,some (e,0)⟩:=by
 have e1:Ybb T s d (.val (.string t)) h = none:=by simp only [Ybb,hs,hd]
 rw [e1,textK_none,← strInts_rows]
 simp only [Zhb,hs,hd,he,news,true_and]
theorem Own.freezeP {h0 h:Hp} {its:List Itm} {ty:Option (Nat×Nat)} (H:Own h0 h its) (j:Nat) {b sz:Nat} {row:List AV} (hj:its[j]? = some ⟨.optr b sz 0 0,true,sz,[row],ty⟩):∃ h',Zf (.optr b sz 0 0) h (.iptr row 0) h'∧Own h0 h' (its.set j dead):=by
 have hb:=H.getP j hj
 refine ⟨h.del b,?_,(H.del j hj (b:=b) (by simp [Itm.blk]) optr_ne_nil).1⟩
 intro g w v hh hv
 obtain ⟨c,e,fr,a1,a2,a3,a4⟩:=hh.frz hb
 refine ⟨_,a1,a2,?_⟩
 simp only [VR] at hv ⊢
 subst hv
 refine ⟨_,c,e,fr,rfl,rfl,by simp,by simp [Gh.frz],?_⟩
 have:=(a3.mono a1 c sz 0 [row]).get (i:=0) (r:=row) rfl
 simpa using this.2
theorem Zf.fn {h h':Hp} {f:Fn} {xs ys:List AV} (k:X8 h h' xs ys):Zf (.fn f [] xs) h (.fn f [] ys) h':=by
 intro g w v hh hv
 simp only [VR] at hv
 obtain ⟨fs,cs,rfl,h1,h2⟩:=hv
 obtain ⟨g',a,b,c⟩:=k g w cs.toList hh h2
 refine ⟨g',a,b,?_⟩
 simp only [VR]
 refine ⟨fs,cs,rfl,?_,c⟩
 cases e:fs.toList with
 | nil=>simp [VRs]
 | cons=>rw [e] at h1; simp [VRs] at h1
end
def X2 {σ:Type} (body:σ→(σ→Prop)→Prop) (s0:σ):Prop:=∃ (inv:σ→Prop) (μ:σ→Nat),inv s0∧∀ s,inv s→body s fun s'=>inv s'∧μ s' < μ s
def wcut {α:Type} (body:(α→Prop)→Prop) (k:α→Prop):Prop:=body k
theorem Yn {α:Type} {body:(α→Prop)→Prop} {k:α→Prop} (h:wcut body k):∃ k',body k'∧∀ z,k' z→k z:=⟨k,h,fun _ h=>h⟩
abbrev I64 (x:Int):Prop:=-9223372036854775808≤x∧x≤9223372036854775807
theorem take_map {α β:Type} (f:α→β) (l:List α) (n:Nat):(l.map f).take n = (l.take n).map f:=List.map_take.symm
theorem drop_map {α β:Type} (f:α→β) (l:List α) (n:Nat):(l.map f).drop n = (l.drop n).map f:=List.map_drop.symm
theorem backK_ret {K:St→Prop} {X:AV→Hp→Prop} {d:Option Nat} {tm:List AV} {h:Hp} {x:AV}:backK K X d tm (.ret x) h = K ⟨put tm d x,h⟩:=rfl
theorem take_map_all {α β:Type} (f:α→β) (l:List α):(l.take l.length).map f = l.map f:=by rw [List.take_length]
theorem ifp {c:Prop} [Decidable c] {a b:Prop} (h:if c then a else b) (k:c):a:=by rwa [if_pos k] at h
theorem ifn {c:Prop} [Decidable c] {a b:Prop} (h:if c then a else b) (k:¬ c):b:=by rwa [if_neg k] at h
theorem Own.p {ty:Option (Nat×Nat)} {h0 h:Hp} {its:List Itm} (H:Own h0 h its) (j:Nat) {b sz:Nat} {rows:List (List AV)} (hj:its[j]? = some ⟨.optr b sz 0 0,true,sz,rows,ty⟩):h b = some ⟨sz,rows,ty⟩:=H.getP j hj
abbrev oT (n:Nat):Operand:=.tmp n
abbrev oC (n:Int):Operand:=.const (.int .i64 n)
abbrev oD (n:Int):Operand:=.const (.int .u8 n)
abbrev oO (d:Nat) (x:Op):AO:=⟨some d,x,none,false⟩
abbrev oS (x:Op):AO:=⟨none,x,none,false⟩
abbrev oG (d g:Nat) (b:Bool) (x:Op):AO:=⟨some d,x,some (some g,b),false⟩
abbrev oM (d s:Nat):AO:=⟨some d,.move (.tmp s),none,false⟩
abbrev oA (d s:Nat):AO:=⟨some d,.assign (.tmp s),none,false⟩
abbrev oL (d t s:Nat):AO:=⟨some d,.load t (.tmp s),none,false⟩
abbrev oF (d t s f:Nat):AO:=⟨some d,.fieldAddr t (.tmp s) f,none,false⟩
abbrev oI (d t s i:Nat):AO:=⟨some d,.indexAddr t (.tmp s) (.tmp i),none,false⟩
abbrev oN (d s t:Nat):AO:=⟨some d,.call (.mk (.builtin .len) #[.tmp s] #[t]),none,false⟩
abbrev oK (f:Nat) (as_:Array Operand) (ts:Array Nat):Op:=.call (.mk (.value (.func f)) as_ ts)
theorem lkt {xs:List AV} {ps:List (Option AV)} (h:Like xs ps:=by repeat' (first | exact trivial | apply And.intro | rfl | (simp (maxSteps:=1000000) [push_cast]; done) | (simp (maxSteps:=1000000) [push_cast, *]; done))):Like xs ps:=h
theorem wkt {xs ys:List AV} (h:Weak xs ys:=by repeat' (first | exact trivial | exact .inl rfl | apply And.intro | exact .inr rfl | (refine .inr ?_; simp (maxSteps:=1000000) [push_cast]; done) | (refine .inr ?_; simp (maxSteps:=1000000) [push_cast, *]; done))):Weak xs ys:=h
attribute [push_cast] textK_some abin_slss abin_sleq abin_sgtr abin_sgeq aslice_isl slcI_some slcE_some aslice_str slcS_some not_decide alen_isl alen_osl alen_nil alen_str aSrc_isl aSrc_nil fillD wrap_i64 Nat.zero_le Nat.le_refl take_map_all Int.toNat_natCast encInt_eq encU8_eq encK_eq encBool_eq encStr_eq encSl_eq lenT_some lenS_some backK_ret take_map drop_map
theorem ai {a b:Prop} (x:a) (y:b):a∧b:=⟨x,y⟩
theorem sg {A p q:Prop} (f:A) (k:q) (h:A→p = q:=by intro F; first | (conv=>lhs; simp (maxSteps:=4000000) -implicitDefEqProofs (disch:=omega) only [push_cast,seval,List.drop_zero,F]) | rfl):p:=(h f).mpr k
theorem sg0 {p q:Prop} (k:q) (h:p = q:=by first | (conv=>lhs; simp (maxSteps:=4000000) -implicitDefEqProofs (disch:=omega) only [push_cast,seval]) | rfl):p:=h.mpr k
theorem rtw {tm tm':List AV} {h:Hp} (hw:Weak tm tm':=by exact wkt):Xg ⟨tm,h⟩ ⟨tm',h⟩:=Xg.weak hw (Hp.sub.refl _)
theorem Own.pm {h0 h:Hp} {its:List Itm} (H:Own h0 h its) (l:List Nat) (hn:l.Nodup:=by decide):Own h0 h (l.map fun j=>its.getD j dead):=H.perm l hn
theorem gmp {α β:Type} {f:α→β} {l:List α} {k:Nat} {v:α} (h:l[k]? = some v):(l.map f)[k]? = some (f v):=by rw [List.getElem?_map,h]; rfl
theorem fkc {α β:Type} {c:Prop} [Decidable c] {p:α→Prop} {s:α} {q:β→Prop} {t:β} (h1:c→p s) (h2:¬ c→q t):fork (.val (.bool (decide c))) p s q t:=by rw [fork_cond]; exact ⟨h1,h2⟩
theorem gfk {c:Prop} [Decidable c] {p:St→Prop} {s:St} {q:St→Prop} {t:St} (h1:c→p s) (h2:¬ c→q t):Yaa (.val (.bool (decide c))) true p s q t:=by rw [gfork_cond]; exact ⟨h1,h2⟩
theorem gfk' {c:Prop} [Decidable c] {p:St→Prop} {s:St} {q:St→Prop} {t:St} (h1:c→q t) (h2:¬ c→p s):Yaa (.val (.bool (decide c))) false p s q t:=by rw [gfork_cond']; exact ⟨h1,h2⟩
end Go.Proofs.YtpkhmfedaaoalaaGreatDoor.AM
