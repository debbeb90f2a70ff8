/- ItemsGlues: a part of its proof (packed by a program). -/
import Derived.Test.YtpkhmfedaaoalaaGreatDoorItd
set_option linter.all false
namespace Go.Proofs.YtpkhmfedaaoalaaGreatDoor
open Go Go.Proofs.YtpkhmfedaaoalaaGreatDoor.AM Fo
theorem top_snoc (r:Row) (x:Zc):top (r++[x]) = x:=by simp [top]
theorem snoc_of {r:Row} (h:r≠[]):∃ r0 x,r = r0++[x]:=⟨r.dropLast,r.getLast h,(List.dropLast_concat_getLast h).symm⟩
theorem may_w (r:Row) (t:List Za) (hl:r.length≤3000000) (k:Int) {Q:Bool→Row→List Za→Prop} (h:Q (mayB r k) r t):Yi.w k r t Vd Q:=by
 unfold Yi.w
 by_cases hr:r = []
 ·subst hr
  rw [if_pos (by simp)]
  have hp:=aget_pair 0 k
  unfold mayB at h
  have ht:top [] = open0:=rfl
  rw [ht] at h
  cases e:Vqa 0 k with
  | false=>
   rw [if_pos (hp.2 e)]
   have e':Vqa open0.kind k = false:=e
   rw [e'] at h
   simpa using h
  | true=>
   rw [if_neg (by rw [hp]; rw [e]; simp)]
   have e':Vqa open0.kind k = true:=e
   rw [e'] at h
   have e2:decide (open0.kind = 105) = false:=rfl
   rw [e2] at h
   simp only [Bool.true_and,Bool.false_and,Bool.not_false] at h
   unfold wcut
   dsimp only
   by_cases k1:k = 101∨k = 115
   ·rw [if_pos k1] at h
    by_cases k2:k = 101
    ·rw [if_pos k2,if_pos (by simp [k2])]
     exact Vza [] (by simp) k (by simpa using h)
    ·rw [if_neg k2,if_pos (by simp; omega)]
     exact Vza [] (by simp) k (by simpa using h)
   ·rw [if_neg k1] at h
    have k2:¬ k = 101:=fun q=>k1 (.inl q)
    have k3:¬ k = 115:=fun q=>k1 (.inr q)
    rw [if_neg k2,if_neg (by simpa using k3)]
    by_cases k4:k = 99
    ·rw [if_pos k4] at h ⊢
     have:decide (open0.kids < 8) = true:=rfl
     rw [this] at h; exact h
    rw [if_neg k4] at h ⊢
    by_cases k5:k = 110
    ·rw [if_pos k5] at h ⊢
     have hn:Km ([]:Row) (isK sFlow) ([]:Row).length = none:=rfl
     have hn2:noteB [] = false:=rfl
     rw [hn2] at h
     simp only [Bool.and_false] at h
     refine ⟨by constructor <;> simp,?_⟩
     refine down2_w [] (by simp) sFlow (fun i v hi=>by rw [hn] at hi; cases hi) (fun _ _=>?_)
     refine Vza [] (by simp) 110 ?_
     split
     ·refine Vza [] (by simp) 99 ?_
      split <;> exact h
     ·exact h
    ·rw [if_neg k5] at h ⊢; exact h
 ·obtain ⟨r0,x,rfl⟩:=snoc_of hr
  have hlen:(r0++[x]).length = r0.length+1:=by simp
  rw [if_neg (by rw [hlen]; omega)]
  refine ⟨by constructor <;> omega,by omega,x,Va _ _,?_⟩
  have hp:=aget_pair x.kind k
  unfold mayB at h
  rw [top_snoc] at h
  unfold wcut
  dsimp only
  cases e:Vqa x.kind k with
  | false=>
   rw [if_pos (hp.2 e)]
   rw [e] at h
   simpa using h
  | true=>
   rw [if_neg (by rw [hp]; rw [e]; simp)]
   rw [e,Bool.true_and] at h
   have key:Q (if k = 101∨k = 115 then decide (hasN (r0++[x]) k = 0) else if k = 99 then decide (x.kids < 8) else if k = 110 then decide (hasN (r0++[x]) 110 = 0) && decide (hasN (r0++[x]) 99 = 0) && noteB (r0++[x]) else true) (r0++[x]) t →
    (if k = 101 then
     if decide (k = 101) = true then Zs.w (r0++[x]) k fun r7=>Q (decide (r7 = 0)) (r0++[x]) t
     else if k = 99 then Q (decide (x.kids < 8)) (r0++[x]) t else if k = 110 then (I64 (((r0++[x]).length:Int) - 1)) ∧
       X2 (σ:=Int) (fun a5 next2=>
        if 0≤a5 then
         (0≤a5) ∧
         ∃ v4:Zc,(r0++[x])[a5.toNat]? = some v4 ∧
         strings_IndexByte.w (ByteArray.mk #[49,50,51,112,105]) v4.kind (fun r8=>
          if 0≤r8 then
           Zs.w (r0++[x]) 110 (fun r9=>
            if r9 = 0 then
             Zs.w (r0++[x]) 99 (fun r10=>
              if r10 = 0 then
               Q (decide (v4.note = 0)) (r0++[x]) t
              else
               Q false (r0++[x]) t)
            else
             Q false (r0++[x]) t)
          else
           (I64 (a5 - 1)) ∧
           next2 (a5 - 1))
        else
         Zs.w (r0++[x]) 110 (fun r11=>
          if r11 = 0 then
           Zs.w (r0++[x]) 99 (fun r12=>
            if r12 = 0 then
             Q false (r0++[x]) t
            else
             Q false (r0++[x]) t)
          else
           Q false (r0++[x]) t)) (((r0++[x]).length:Int) - 1) else Q true (r0++[x]) t
    else
     if decide (k = 115) = true then Zs.w (r0++[x]) k fun r7=>Q (decide (r7 = 0)) (r0++[x]) t
     else if k = 99 then Q (decide (x.kids < 8)) (r0++[x]) t else if k = 110 then (I64 (((r0++[x]).length:Int) - 1)) ∧
       X2 (σ:=Int) (fun a5 next2=>
        if 0≤a5 then
         (0≤a5) ∧
         ∃ v4:Zc,(r0++[x])[a5.toNat]? = some v4 ∧
         strings_IndexByte.w (ByteArray.mk #[49,50,51,112,105]) v4.kind (fun r8=>
          if 0≤r8 then
           Zs.w (r0++[x]) 110 (fun r9=>
            if r9 = 0 then
             Zs.w (r0++[x]) 99 (fun r10=>
              if r10 = 0 then
               Q (decide (v4.note = 0)) (r0++[x]) t
              else
               Q false (r0++[x]) t)
            else
             Q false (r0++[x]) t)
          else
           (I64 (a5 - 1)) ∧
           next2 (a5 - 1))
        else
         Zs.w (r0++[x]) 110 (fun r11=>
          if r11 = 0 then
           Zs.w (r0++[x]) 99 (fun r12=>
            if r12 = 0 then
             Q false (r0++[x]) t
            else
             Q false (r0++[x]) t)
          else
           Q false (r0++[x]) t)) (((r0++[x]).length:Int) - 1) else Q true (r0++[x]) t):=by
    intro h
    by_cases k1:k = 101∨k = 115
    ·rw [if_pos k1] at h
     by_cases k2:k = 101
     ·rw [if_pos k2,if_pos (by simp [k2])]
      exact Vza _ hl k (by simpa using h)
     ·rw [if_neg k2,if_pos (by simp; omega)]
      exact Vza _ hl k (by simpa using h)
    ·rw [if_neg k1] at h
     have k2:¬ k = 101:=fun q=>k1 (.inl q)
     have k3:¬ k = 115:=fun q=>k1 (.inr q)
     rw [if_neg k2,if_neg (by simpa using k3)]
     by_cases k4:k = 99
     ·rw [if_pos k4] at h ⊢; exact h
     rw [if_neg k4] at h ⊢
     by_cases k5:k = 110
     ·rw [if_pos k5] at h ⊢
      refine ⟨by constructor <;> omega,?_⟩
      refine down_w (r0++[x]) hl sFlow (fun i v hi hv=>?_) (fun hi=>?_)
      ·unfold noteB at h
       rw [hi] at h
       dsimp only at h
       have hv':(r0++[x]).getD i open0 = v:=by rw [List.getD,hv]; rfl
       rw [hv'] at h
       refine Vza _ hl 110 ?_
       by_cases z1:hasN (r0++[x]) 110 = 0
       ·rw [if_pos (by omega)]
        refine Vza _ hl 99 ?_
        by_cases z2:hasN (r0++[x]) 99 = 0
        ·rw [if_pos (by omega)]; simpa [z1,z2] using h
        ·rw [if_neg (by omega)]; simpa [z1,z2] using h
       ·rw [if_neg (by omega)]; simpa [z1] using h
      ·unfold noteB at h
       rw [hi] at h
       simp only [Bool.and_false] at h
       refine Vza _ hl 110 ?_
       split
       ·refine Vza _ hl 99 ?_
        split <;> exact h
       ·exact h
     ·rw [if_neg k5] at h ⊢; exact h
   by_cases c1:x.kind = 105
   ·rw [if_pos c1]
    by_cases c2:x.past = true
    ·rw [if_pos c2]
     by_cases c3:k = 108
     ·rw [if_pos c3]
      refine key ?_
      simpa [c1,c2,c3] using h
     ·rw [if_neg c3]
      simpa [c1,c2,c3] using h
    ·rw [if_neg c2]
     refine key ?_
     simpa [c1,c2] using h
   ·rw [if_neg c1]
    refine key ?_
    simpa [c1] using h
structure BInv (n:Nat) (r:Row) (t:List Za):Prop where
 rl:r.length≤n
 tl:t.length≤n
 it:∀ x∈r,0≤x.at_∧x.at_ < t.length∧0≤x.kids∧x.kids≤n∧0≤x.note∧x.note≤n∧0≤x.text∧x.text≤n * 1000000
 ne:∀ l0 k l1,kinds r = l0++k :: l1→Vqa (topK l0) k = true
theorem BInv.nil:BInv 0 [] []:=⟨by simp,by simp,by simp,fun l0 k l1 h=>by simp [kinds] at h⟩
theorem Z6a {r:Row} {i:Nat} {f:Zc→Zc} {x:Zc} (h:x∈Yya r i f):x∈r∨∃ y∈r,x = f y:=by
 unfold Yya at h
 rcases Nat.lt_or_ge i r.length with hi | hi
 ·rcases List.mem_or_eq_of_mem_set h with h | h
  ·exact .inl h
  ·refine .inr ⟨r[i],List.getElem_mem hi,?_⟩
   rw [h,List.getD,List.getElem?_eq_getElem hi]; rfl
 ·rw [List.set_eq_of_length_le hi] at h; exact .inl h
theorem Yzb (r:Row) (i:Nat) (f:Zc→Zc):(Yya r i f).length = r.length:=by simp [Yya]
theorem bump_len (r:Row):(bump r).length = r.length:=Yzb _ _ _
theorem BInv.bump {n:Nat} {r:Row} {t:List Za} (H:BInv n r t) (x:Za):BInv (n+1) (bump r) (t++[x]):=by
 refine ⟨by rw [bump_len]; have:=H.rl; omega,by have:=H.tl; simp; omega,fun y hy=>?_,fun l0 k l1 h=>H.ne l0 k l1 (by rw [J5] at h; exact h)⟩
 simp only [List.length_append,List.length_cons,List.length_nil]
 rcases Z6a hy with hy | ⟨z,hz,rfl⟩
 ·have:=H.it y hy; omega
 ·have:=H.it z hz; dsimp only; omega
theorem BInv.map {n:Nat} {r:Row} {t:List Za} (H:BInv n r t) (i:Nat) (f:Zc→Zc) (hk:∀ x:Zc,(f x).kind = x.kind)
  (hf:∀ x:Zc,0≤x.at_∧x.at_ < t.length∧0≤x.kids∧x.kids≤n∧0≤x.note∧x.note≤n∧0≤x.text∧x.text≤n * 1000000→0≤(f x).at_∧(f x).at_ < t.length∧0≤(f x).kids∧(f x).kids≤n∧0≤(f x).note∧(f x).note≤n∧0≤(f x).text∧(f x).text≤n * 1000000):BInv n (Yya r i f) t:=by
 refine ⟨by rw [Yzb]; exact H.rl,H.tl,fun y hy=>?_,fun l0 k l1 h=>H.ne l0 k l1 (by rw [V6 hk] at h; exact h)⟩
 rcases Z6a hy with hy | ⟨z,hz,rfl⟩
 ·exact H.it y hy
 ·exact hf z (H.it z hz)
theorem bump_snoc (r:Row) (x:Zc):bump (r++[x]) = r++[{ x with kids:=x.kids+1 }]:=by
 unfold bump Yya
 simp [List.getD]
theorem add_w {n:Nat} {r:Row} {t:List Za} (H:BInv n r t) (hn:n≤2100000) (x:Za) {M:PMap} {Q:Int→Row→List Za→Prop} (h:Q (if 2000 < t.length+1 then 4 else 0) (bump r) (t++[x])):Yr.w x r t M Q:=by
 unfold Yr.w
 have tl:=H.tl
 have rl:=H.rl
 have fin:∀ a1:Row,a1 = bump r→((t.length+([x]:List Za).length) * 40≤140737488355328)∧(if 2000 < ((t++([x]:List Za)).length:Int) then Q 4 a1 (t++([x]:List Za)) else Q 0 a1 (t++([x]:List Za))):=by
  rintro _ rfl
  refine ⟨by simp; omega,?_⟩
  have e:((t++[x]).length:Int) = (t.length:Int)+1:=by simp
  rw [e]
  by_cases k:2000 < t.length+1
  ·rw [if_pos (by omega)]; rw [if_pos k] at h; exact h
  ·rw [if_neg (by omega)]; rw [if_neg k] at h; exact h
 unfold wcut
 dsimp only
 by_cases hr:r = []
 ·subst hr
  rw [if_pos (by simp)]; exact fin _ rfl
 ·obtain ⟨r0,y,rfl⟩:=snoc_of hr
  have hlen:(r0++[y]).length = r0.length+1:=by simp
  have hy:=H.it y (by simp)
  rw [if_neg (by rw [hlen]; omega)]
  refine ⟨by constructor <;> omega,by omega,y,Va _ _,by constructor <;> omega,?_⟩
  exact fin _ (by rw [Ylb,bump_snoc])
theorem W6 {r:Row} {i:Nat} {v:Zc} (h:r[i]? = some v):r.getD i open0 = v:=by rw [List.getD,h]; rfl
theorem texts_w {n:Nat} {r:Row} {t:List Za} (H:BInv n r t) (hn:n≤2100000) (x:Zm) (hs:x.Text.size≤1000000) (hm:mayB r 46 = true) {Q:(Int×Int)→Row→List Za→Prop}
  (h:Q (x.At,(textB r t x.Text x.At).2.2) (textB r t x.Text x.At).1 (textB r t x.Text x.At).2.1):Y0.w x r t Vd Q:=by
 unfold Y0.w
 refine may_w r t (by have:=H.rl; omega) 46 ?_
 dsimp only
 rw [hm,if_neg (by simp)]
 refine add_w H hn _ ?_
 have H2:=H.bump ⟨46,x.Text,x.At,1⟩
 have rl:=H2.rl
 unfold textB at h
 dsimp only at h
 unfold wcut
 dsimp only
 refine ⟨by constructor <;> omega,?_⟩
 refine down2_w (bump r) (by omega) sNote (fun i v hi hv=>?_) (fun hi _=>?_)
 ·rw [hi] at h
  dsimp only at h ⊢
  have hv2:=W6 hv
  rw [hv2] at h
  have hb:=H2.it v (List.mem_of_getElem? hv)
  refine ⟨by constructor <;> omega,?_⟩
  have e:(bump r).set (i:Int).toNat ⟨v.kind,v.at_,v.kids,v.note,v.past,v.cols,v.text+(x.Text.size:Int)⟩ = Yya (bump r) i fun z=>{ z with text:=z.text+x.Text.size }:=by
   unfold Yya; rw [hv2,Int.toNat_natCast]
  rw [e]
  split
  ·rename_i k; rw [if_pos k] at h; exact h
  ·rename_i k; rw [if_neg k] at h; exact h
 ·rw [hi] at h; exact h
theorem BInv.texts {n:Nat} {r:Row} {t:List Za} (H:BInv n r t) (s:ByteArray) (hs:s.size≤1000000) (a:Int):BInv (n+1) (textB r t s a).1 (textB r t s a).2.1:=by
 unfold textB
 dsimp only
 have H2:=H.bump ⟨46,s,a,1⟩
 split
 ·dsimp only
  rename_i i hi
  obtain ⟨h1,v,hv,_⟩:=Zxb hi
  have H1:=H.it
  refine ⟨by rw [Yzb]; exact H2.rl,H2.tl,fun y hy=>?_,fun l0 k l1 h=>H2.ne l0 k l1 (by rw [V6 (f:=fun z=>{ z with text:=z.text+s.size }) (fun _=>rfl)] at h; exact h)⟩
  rcases Z6a hy with hy | ⟨z,hz,rfl⟩
  ·exact H2.it y hy
  ·have b2:=H2.it z hz
   dsimp only
   have:z.text≤n * 1000000:=by
    rcases Z6a hz with hz | ⟨q,hq,rfl⟩
    ·exact (H1 z hz).2.2.2.2.2.2.2
    ·exact (H1 q hq).2.2.2.2.2.2.2
   omega
 ·exact H2
theorem whole_w {n:Nat} {o:Zc} {r:Row} {t t':List Za} (H:BInv n r t) (hn:n≤2100000) (ho:0≤o.kids) (hp:Vqa (topK (kinds r)) o.kind = true) {M:PMap} {Q:Bool→Row→List Za→Prop}
  (h1:∀ r',wholeB o r = some r'→Q true r' t') (h2:wholeB o r = none→∀ r',Q false r' t'):Yz.w o r t' M Q:=by
 unfold Yz.w
 have rl:=H.rl
 unfold wholeB at h1 h2
 unfold wcut
 dsimp only
 have A:o.kind = 108∨o.kind = 116→Q (decide (0 < o.kids)) r t':=by
  intro k
  rw [if_pos k] at h1 h2
  by_cases q:0 < o.kids
  ·rw [decide_eq_true q]; exact h1 r (by rw [if_pos q])
  ·rw [decide_eq_false q]; exact h2 (by rw [if_neg q]) r
 by_cases k1:o.kind = 108
 ·rw [if_pos k1,if_pos (by simpa using k1)]; exact A (.inl k1)
 rw [if_neg k1]
 by_cases k2:o.kind = 116
 ·rw [if_pos (by simpa using k2)]; exact A (.inr k2)
 rw [if_neg (by simpa using k2)]
 rw [if_neg (by omega)] at h1 h2
 by_cases k3:o.kind = 114
 ·rw [if_pos k3] at h1 h2 ⊢
  refine ⟨by constructor <;> omega,?_⟩
  have hr:r≠[]:=by
   rintro rfl
   rw [k3] at hp
   exact absurd hp (by decide +kernel)
  obtain ⟨r0,x,rfl⟩:=snoc_of hr
  have hx:x.kind = 116:=by
   have e:topK (kinds (r0++[x])) = x.kind:=by simp [kinds,topK]
   rw [e,k3] at hp
   obtain ⟨q,hq,e1,e2⟩:=K5a hp
   have:∀ q∈pairK,(114:Int)∈q.2→q.1 = 116:=by decide
   rw [← e1]; exact this q hq e2
  have hl:=lastIx_last (r:=r0) (p:=isK sTab) (x:=x) (by unfold isK; rw [hx]; decide +kernel)
  refine down2_w (r0++[x]) (by omega) sTab (fun i v hi hv=>?_) (fun hi _=>by rw [hl] at hi; cases hi)
  have hv2:=W6 hv
  rw [hi] at h1 h2
  dsimp only at h1 h2 ⊢
  rw [hv2] at h1 h2
  have e:(r0++[x]).set (i:Int).toNat ⟨v.kind,v.at_,v.kids,v.note,v.past,o.kids,v.text⟩ = Yya (r0++[x]) i fun z=>{ z with cols:=o.kids }:=by
   unfold Yya; rw [hv2,Int.toNat_natCast]
  rw [e]
  by_cases c1:v.cols = 0
  ·rw [if_pos c1] at h1 h2 ⊢
   by_cases c2:0 < o.kids
   ·rw [if_pos c2]; exact h1 _ (by rw [if_pos c2])
   ·rw [if_neg c2]; exact h2 (by rw [if_neg c2]) _
  ·rw [if_neg c1] at h1 h2 ⊢
   by_cases c2:0 < o.kids
   ·rw [if_pos c2]
    by_cases c3:o.kids = v.cols
    ·rw [decide_eq_true c3]; exact h1 _ (by rw [if_pos ⟨c2,c3⟩])
    ·rw [decide_eq_false c3]; exact h2 (by rw [if_neg fun q=>c3 q.2]) _
   ·rw [if_neg c2]; exact h2 (by rw [if_neg fun q=>c2 q.1]) _
 ·rw [if_neg k3] at h1 h2 ⊢
  exact h1 r rfl
theorem BInv.whole {n:Nat} {o:Zc} {r r':Row} {t:List Za} (H:BInv n r t) (h:wholeB o r = some r'):BInv n r' t:=by
 unfold wholeB at h
 split at h
 ·split at h
  ·cases h; exact H
  ·cases h
 ·split at h
  ·split at h
   ·split at h
    ·split at h
     ·cases h; exact H.map _ _ (fun _=>rfl) (fun x hx=>hx)
     ·cases h
    ·split at h
     ·cases h; exact H
     ·cases h
   ·cases h
  ·cases h; exact H
theorem BInv.pop {n:Nat} {r:Row} {x:Zc} {t:List Za} (H:BInv n (r++[x]) t):BInv n r t∧Vqa (topK (kinds r)) x.kind = true:=by
 refine ⟨⟨by have:=H.rl; simp at this; omega,H.tl,fun y hy=>H.it y (by simp [hy]),fun l0 k l1 h=>H.ne l0 k (l1++[x.kind]) (by simp only [kinds,List.map_append] at h ⊢; rw [h]; simp)⟩,H.ne (kinds r) x.kind [] (by simp [kinds])⟩
theorem BInv.setT {n:Nat} {r:Row} {t:List Za} (H:BInv n r t) (i:Nat) (v:Za):BInv n r (t.set i v):=
 ⟨H.rl,by simpa using H.tl,by simpa using H.it,H.ne⟩
theorem shuts_w {n:Nat} {r:Row} {t:List Za} (H:BInv n r t) (hn:n≤2100000) (x:Zm) {M:PMap} {Q:(Int×Int)→Row→List Za→Prop}
  (h1:∀ s,shutB r t = some s→Q (x.At,0) s.1 s.2.1) (h2:shutB r t = none→∀ r' t',Q (x.At,2) r' t'):Y1.w x r t M Q:=by
 unfold Y1.w
 unfold shutB at h1 h2
 have rl:=H.rl
 have tl:=H.tl
 by_cases hr:r = []
 ·subst hr
  rw [if_pos (by simp)]
  exact h2 (by simp) _ _
 ·obtain ⟨r0,y,rfl⟩:=snoc_of hr
  rw [if_neg hr] at h1 h2
  have hlen:(r0++[y]).length = r0.length+1:=by simp
  have hy:=H.it y (by simp)
  obtain ⟨H0,hp⟩:=H.pop
  rw [if_neg (by rw [hlen]; omega)]
  have ht:t[y.at_.toNat]? = some (t.getD y.at_.toNat ⟨0,⟨#[]⟩,0,0⟩):=by
   rw [List.getD,List.getElem?_eq_getElem (by omega)]; rfl
  have e1:(r0++[y]).take ((r0++[y]).length - 1) = r0:=by rw [hlen]; simp
  rw [top_snoc,e1] at h1 h2
  refine ⟨by constructor <;> omega,by omega,y,Va _ _,by constructor <;> omega,by constructor <;> omega,by constructor <;> omega,by omega,_,ht,?_⟩
  rw [Ygb]
  refine whole_w H0 hn hy.2.2.1 hp (fun r' hw=>?_) (fun hw r'=>?_)
  ·rw [hw] at h1
   rw [if_neg (by simp)]
   exact h1 _ rfl
  ·rw [hw] at h2
   rw [if_pos (by simp)]
   exact h2 rfl _ _
theorem BInv.succ {n:Nat} {r:Row} {t:List Za} (H:BInv n r t):BInv (n+1) r t:=⟨by have:=H.rl; omega,by have:=H.tl; omega,fun z hz=>by have:=H.it z hz; omega,H.ne⟩
theorem BInv.shuts {n:Nat} {r:Row} {t:List Za} {s:BS} (H:BInv n r t) (h:shutB r t = some s):BInv (n+1) s.1 s.2.1:=by
 unfold shutB at h
 split at h
 ·cases h
 ·rename_i hr
  obtain ⟨r0,y,rfl⟩:=snoc_of hr
  obtain ⟨H0,hp⟩:=H.pop
  split at h
  ·rename_i r1 hw
   cases h
   have e1:(r0++[y]).take ((r0++[y]).length - 1) = r0:=by simp
   rw [e1] at hw
   have:=(H0.whole hw).setT (top (r0++[y])).at_.toNat (let v:=t.getD (top (r0++[y])).at_.toNat ⟨0,⟨#[]⟩,0,0⟩; ⟨v.Kind,v.Text,v.At,(t.length:Int) - (top (r0++[y])).at_⟩)
   exact this.succ
  ·cases h
theorem BInv_noted {n:Nat} {r:Row} {t:List Za} (H:BInv n r t) (k:Int) (x:Za):BInv (n+1) (bump (Yxa r k)) (t++[x]):=by
 unfold Yxa
 split
 ·split
  ·rename_i i hi
   refine ⟨by rw [bump_len,Yzb]; have:=H.rl; omega,by have:=H.tl; simp; omega,fun y hy=>?_,fun l0 k l1 h=>H.ne l0 k l1 (by rw [J5,V6 (f:=fun z=>{ z with note:=z.note+1 }) (fun _=>rfl)] at h; exact h)⟩
   simp only [List.length_append,List.length_cons,List.length_nil]
   rcases Z6a hy with hy | ⟨z,hz,rfl⟩
   ·rcases Z6a hy with hy | ⟨z,hz,rfl⟩
    ·have:=H.it y hy; omega
    ·have:=H.it z hz; dsimp only; omega
   ·rcases Z6a hz with hz | ⟨q,hq,rfl⟩
    ·have:=H.it z hz; dsimp only; omega
    ·have:=H.it q hq; dsimp only; omega
  ·exact H.bump x
 ·split
  ·exact (H.map (r.length - 1) (fun x=>{ x with past:=true }) (fun _=>rfl) (fun _ h=>h)).bump x
  ·exact H.bump x
theorem BInv_opens {n:Nat} {r:Row} {t:List Za} (H:BInv n r t) (k a:Int) (hm:mayB r k = true):BInv (n+1) (Yqb r t k a).1 (Yqb r t k a).2.1:=by
 unfold Yqb
 dsimp only
 have H2:=BInv_noted H k ⟨k,⟨#[]⟩,a,1⟩
 have hk:kinds (bump (Yxa r k)) = kinds r:=by rw [J5,Z7a]
 have hl:(bump (Yxa r k)).length = r.length:=by
  have:=congrArg List.length hk
  simpa [kinds] using this
 refine ⟨by simp only [List.length_append,List.length_cons,List.length_nil,hl]; have:=H.rl; omega,H2.tl,fun y hy=>?_,fun l0 q l1 h=>?_⟩
 ·rcases List.mem_append.1 hy with hy | hy
  ·exact H2.it y hy
  ·simp only [List.mem_singleton] at hy
   subst hy
   simp only [List.length_append,List.length_cons,List.length_nil]
   omega
 ·have e:kinds (bump (Yxa r k)++[⟨k,(t.length:Int),0,0,false,0,0⟩]) = kinds r++[k]:=by
   unfold kinds at hk ⊢; rw [List.map_append,hk]; rfl
  rw [e] at h
  rcases List.eq_nil_or_concat l1 with rfl | ⟨l2,z,rfl⟩
  ·obtain ⟨e1,e2⟩:=List.append_inj' h rfl
   cases e2
   rw [← e1]; exact may_pair hm
  ·have:kinds r++[k] = (l0++q :: l2)++[z]:=by rw [h]; simp
   obtain ⟨e1,_⟩:=List.append_inj' this rfl
   exact H.ne l0 q l2 e1
theorem opens_w {n:Nat} {r:Row} {t:List Za} (H:BInv n r t) (hn:n≤2100000) (x:Zm) {Q:(Int×Int)→Row→List Za→Prop}
  (h1:mayB r x.Name = true→Q (x.At,(Yqb r t x.Name x.At).2.2) (Yqb r t x.Name x.At).1 (Yqb r t x.Name x.At).2.1) (h2:mayB r x.Name = false→Q (x.At,2) r t):Y2.w x r t Vd Q:=by
 unfold Y2.w
 have rl:=H.rl
 have tl:=H.tl
 refine may_w r t (by omega) x.Name ?_
 dsimp only
 cases hm:mayB r x.Name with
 | false=>rw [if_pos (by simp)]; exact h2 hm
 | true=>
  rw [if_neg (by simp)]
  have h:=h1 hm
  unfold wcut
  dsimp only
  have hk:kinds (bump (Yxa r x.Name)) = kinds r:=by rw [J5,Z7a]
  have hl:(bump (Yxa r x.Name)).length = r.length:=by
   have:=congrArg List.length hk
   simpa [kinds] using this
  have fin:∀ a1:Row,a1 = Yxa r x.Name→BInv n a1 t→Yr.w (⟨x.Name,(ByteArray.mk #[]),x.At,1⟩:Za) a1 t Vd (fun r3 v6 v7=>
     (I64 ((v7.length:Int) - 1)) ∧
     ((v6.length+([(⟨x.Name,(v7.length:Int) - 1,0,0,false,0,0⟩:Zc)]:List Zc).length) * 56≤140737488355328) ∧
      if 32 < ((v6++([(⟨x.Name,(v7.length:Int) - 1,0,0,false,0,0⟩:Zc)]:List Zc)).length:Int) then
       Q (x.At,5) (v6++([(⟨x.Name,(v7.length:Int) - 1,0,0,false,0,0⟩:Zc)]:List Zc)) v7
      else
       Zs.w (v6++([(⟨x.Name,(v7.length:Int) - 1,0,0,false,0,0⟩:Zc)]:List Zc)) 108 (fun r4=>
        if 8 < r4 then
         Q (x.At,5) (v6++([(⟨x.Name,(v7.length:Int) - 1,0,0,false,0,0⟩:Zc)]:List Zc)) v7
        else
         Q (x.At,r3) (v6++([(⟨x.Name,(v7.length:Int) - 1,0,0,false,0,0⟩:Zc)]:List Zc)) v7)):=by
   rintro _ rfl H1
   refine add_w H1 hn _ ?_
   have e:((t++[(⟨x.Name,(ByteArray.mk #[]),x.At,1⟩:Za)]).length:Int) - 1 = (t.length:Int):=by simp
   rw [e]
   have el:(bump (Yxa r x.Name)++[(⟨x.Name,(t.length:Int),0,0,false,0,0⟩:Zc)]).length = r.length+1:=by simp [hl]
   refine ⟨by constructor <;> omega,by rw [hl]; simp; omega,?_⟩
   unfold Yqb at h
   dsimp only at h
   rw [el] at h ⊢
   by_cases c1:32 < r.length+1
   ·rw [if_pos (by omega)]; rw [if_pos c1] at h; exact h
   ·rw [if_neg (by omega)]; rw [if_neg c1] at h
    refine Vza _ (by omega) 108 ?_
    by_cases c2:8 < hasN (bump (Yxa r x.Name)++[(⟨x.Name,(t.length:Int),0,0,false,0,0⟩:Zc)]) 108
    ·rw [if_pos (by omega)]; rw [if_pos c2] at h; exact h
    ·rw [if_neg (by omega)]; rw [if_neg c2] at h; exact h
  by_cases k1:x.Name = 110
  ·rw [if_pos k1]
   refine ⟨by constructor <;> omega,?_⟩
   have hnote:noteB r = true:=by
    unfold mayB at hm
    rw [k1] at hm
    simp only [Bool.and_eq_true] at hm
    have h3:=hm.2
    rw [if_neg (by decide),if_neg (by decide),if_pos trivial] at h3
    simp only [Bool.and_eq_true] at h3
    exact h3.2
   unfold noteB at hnote
   refine down2_w r (by omega) sFlow (fun i v hi hv=>?_) (fun hi _=>by rw [hi] at hnote; cases hnote)
   have hv2:=W6 hv
   have hb:=H.it v (List.mem_of_getElem? hv)
   rw [hi] at hnote
   dsimp only at hnote ⊢
   rw [hv2] at hnote
   have e:r.set (i:Int).toNat ⟨v.kind,v.at_,v.kids,v.note+1,v.past,v.cols,v.text⟩ = Yxa r x.Name:=by
    unfold Yxa; rw [if_pos k1,hi]; dsimp only; unfold Yya; rw [hv2,Int.toNat_natCast]
   refine ⟨by constructor <;> omega,?_⟩
   refine fin _ e ?_
   rw [e]
   have hz:v.note = 0:=by simpa using hnote
   refine ⟨by have:=congrArg List.length (Z7a r x.Name); simp [kinds] at this; omega,tl,fun y hy=>?_,fun l0 q l1 h=>H.ne l0 q l1 (by rw [Z7a] at h; exact h)⟩
   unfold Yxa at hy
   rw [if_pos k1,hi] at hy
   dsimp only at hy
   unfold Yya at hy
   rw [hv2] at hy
   rcases List.mem_or_eq_of_mem_set hy with hy | rfl
   ·exact H.it y hy
   ·dsimp only
    have hi2:=(List.getElem?_eq_some_iff.1 hv).1
    omega
  ·rw [if_neg k1]
   by_cases k2:x.Name = 108
   ·rw [if_pos k2]
    have en:Yxa r x.Name = Yya r (r.length - 1) fun x=>{ x with past:=true }:=by
     unfold Yxa; rw [if_neg k1,if_pos k2]
    by_cases hr:r = []
    ·subst hr
     rw [if_pos (by simp)]
     exact fin _ (by rw [en]; rfl) H
    ·obtain ⟨r0,y,rfl⟩:=snoc_of hr
     have hlen:(r0++[y]).length = r0.length+1:=by simp
     rw [if_neg (by rw [hlen]; omega)]
     refine ⟨by constructor <;> omega,by omega,y,Va _ _,?_⟩
     have e:(r0++[y]).set ((((r0++[y]).length:Int) - 1).toNat) ⟨y.kind,y.at_,y.kids,y.note,true,y.cols,y.text⟩ = Yxa (r0++[y]) x.Name:=by
      rw [en,Ylb]; unfold Yya; simp [List.getD]
     refine fin _ e ?_
     rw [e,en]
     exact H.map ((r0++[y]).length - 1) (fun x=>{ x with past:=true }) (fun _=>rfl) (fun _ h=>h)
   ·rw [if_neg k2]
    exact fin _ (by unfold Yxa; rw [if_neg k1,if_neg k2]) H
theorem worse_w (a b:Int) {Q:Int→Prop} (h:Q (Jva a b)):Kc.w a b Q:=by
 unfold Kc.w
 refine wfor (fun i=>i) (fun n=>(n:Int)) 3 (fun n=>∀ m,m < n→∀ v,([2,5,4]:List Int)[m]? = some v→¬ a = v∧¬ b = v) (fun _ _=>rfl) rfl (fun m hm=>by omega) ?_ ?_
 ·intro n hn hp K hK
  try dsimp only
  rw [if_pos (by omega)]
  have hg:([2,5,4]:List Int)[(n:Int).toNat]? = some (([2,5,4]:List Int)[n]'hn):=by rw [Int.toNat_natCast]; exact List.getElem?_eq_getElem hn
  refine ⟨by omega,by omega,_,hg,?_⟩
  have hw:∀ v,([2,5,4]:List Int)[n]? = some v→(a = v∨b = v)→Jva a b = v:=by
   intro v hv hab
   unfold Jva
   match n,hn,hp,hv with
   | 0,_,_,hv=>cases hv; rw [if_pos hab]
   | 1,_,hp,hv=>
    cases hv
    have h0:=hp 0 (by omega) 2 rfl
    rw [if_neg (fun q=>q.elim h0.1 h0.2),if_pos hab]
   | 2,_,hp,hv=>
    cases hv
    have h0:=hp 0 (by omega) 2 rfl
    have h1:=hp 1 (by omega) 5 rfl
    rw [if_neg (fun q=>q.elim h0.1 h0.2),if_neg (fun q=>q.elim h1.1 h1.2),if_pos hab]
  have hw:=hw _ (List.getElem?_eq_getElem hn)
  by_cases c1:a = ([2,5,4]:List Int)[n]'hn
  ·rw [if_pos c1,← hw (.inl c1)]; exact h
  rw [if_neg c1]
  by_cases c2:b = ([2,5,4]:List Int)[n]'hn
  ·rw [if_pos c2,← hw (.inr c2)]; exact h
  rw [if_neg c2]
  refine ⟨V8 (by omega) (by omega),?_⟩
  have:=hK (fun m hm v hv=>by
   rcases Nat.lt_succ_iff_lt_or_eq.1 hm with q | rfl
   ·exact hp m q v hv
   ·rw [List.getElem?_eq_getElem hn] at hv; cases hv; exact ⟨c1,c2⟩)
  simpa using this
 ·intro hp K
  try dsimp only
  rw [if_neg (by omega)]
  have h0:=hp 0 (by omega) 2 rfl
  have h1:=hp 1 (by omega) 5 rfl
  have h2:=hp 2 (by omega) 4 rfl
  unfold Jva at h
  rw [if_neg (fun q=>q.elim h0.1 h0.2),if_neg (fun q=>q.elim h1.1 h1.2),if_neg (fun q=>q.elim h2.1 h2.2)] at h
  exact h
theorem worse_two (a b:Int):Jva a b = 2↔a = 2∨b = 2:=by
 unfold Jva
 constructor
 ·intro h
  split at h
  ·assumption
  ·split at h
   ·cases h
   ·split at h <;> cases h
 ·intro h; rw [if_pos h]
theorem runB_none {l:List Zm} {s:BS} {n:Nat} (h:runB (l.take n) s = none):runB l s = none:=by
 have:l = l.take n++l.drop n:=(List.take_append_drop n l).symm
 rw [this,Zrb,h]; rfl
theorem runB_snoc (l:List Zm) (x:Zm) (s:BS):runB (l++[x]) s = (runB l s).bind fun z=>Xob z x:=by
 rw [Zrb]
 cases runB l s with
 | none=>rfl
 | some z=>
  show runB [x] z = Xob z x
  rw [Ymb]
  cases Xob z x <;> rfl
def evOk (x:Zm):Prop:=(x = evC∨(∃ k,x = evO k)∨∃ s,x = evT s∧s.size≤1000000)
theorem evs_ok:∀ (F:Fo),(toks F).length≤1000000→∀ x∈evs F,evOk x
 | nil,_,x,h=>by cases h
 | text y cs r,hl,x,h=>by
  simp only [toks,List.length_cons,List.length_append] at hl
  rcases List.mem_cons.1 h with rfl | h
  ·exact .inr (.inr ⟨_,rfl,by rw [str_size]; simp; omega⟩)
  ·exact evs_ok r (by omega) x h
 | node o k c r,hl,x,h=>by
  simp only [toks,List.length_cons,List.length_append] at hl
  rcases List.mem_cons.1 h with rfl | h
  ·exact .inr (.inl ⟨_,rfl⟩)
  ·rcases List.mem_append.1 h with h | h
   ·exact evs_ok k (by omega) x h
   ·rcases List.mem_cons.1 h with rfl | h
    ·exact .inl rfl
    ·exact evs_ok r (by omega) x h
theorem Check_w (F:Fo) (hl:(toks F).length≤1000000) {Q:Int→Prop} (h:Q (Xka F)):Vo.w (Zl F) Q:=by
 have hn:=Yra F
 unfold Vo.w
 refine plains_w _ (by omega) ?_
 unfold Xka at h
 by_cases hp:((Zl F).any fun x=>!Ynb x) = true
 ·rw [if_pos hp] at h ⊢; exact h
 rw [if_neg hp] at h ⊢
 have hpl:=plF_of F (by simpa using hp)
 refine sized_w F (by omega) ?_
 rw [if_neg (by simp)]
 dsimp only
 refine events_w F hpl (by omega) ?_
 have hE:=evs_le F
 have hok:=evs_ok F hl
 generalize evs F = l at h hE hok
 show X2 (σ:=List Zc×List Za×Int×Int) _ _
 refine Zib (fun s=>∃ (n:Nat) (z:BS),n≤l.length∧runB (l.take n) ([],[],0) = some z∧s = (z.1,z.2.1,z.2.2,(n:Int))∧BInv n z.1 z.2.1∧z.2.2≠2) (fun s=>(l.length - s.2.2.2).toNat) ⟨0,([],[],0),Nat.zero_le _,rfl,rfl,BInv.nil,by decide⟩ ?_
 rintro _ ⟨n,z,hn1,hr,rfl,hI,hw⟩ K hK
 dsimp only
 by_cases hlt:n < l.length
 ·rw [if_pos (by omega)]
  refine ⟨by omega,l[n],W7 l hlt,?_⟩
  have et:l.take (n+1) = l.take n++[l[n]]:=by rw [List.take_add_one,List.getElem?_eq_getElem hlt]; rfl
  have hr2:runB (l.take (n+1)) ([],[],0) = Xob z l[n]:=by rw [et,runB_snoc,hr]; rfl
  have stop:Xob z l[n] = none→Q 2:=fun e=>by
   rw [runB_none (n:=n+1) (by rw [hr2]; exact e)] at h; exact h
  have go:∀ y:BS,Xob z l[n] = some (wors z.2.2 y)→y.2.2≠2→BInv (n+1) y.1 y.2.1→Kc.w z.2.2 y.2.2 fun r8=>if r8 = 2 then Q r8 else (I64 ((n:Int)+1))∧K (y.1,y.2.1,r8,(n:Int)+1):=by
   intro y hy h2 hI2
   refine worse_w _ _ ?_
   have hne:Jva z.2.2 y.2.2≠2:=fun q=>((worse_two _ _).1 q).elim hw h2
   rw [if_neg hne]
   exact ⟨V8 (by omega) (by omega),hK _ ⟨n+1,wors z.2.2 y,hlt,by rw [hr2]; exact hy,by simp [wors],hI2,hne⟩ (by simp; omega)⟩
  have rl:=hI.rl
  have bad:∀ (a:Row) (b:List Za),Q 2→Kc.w z.2.2 2 fun r8=>if r8 = 2 then Q r8 else (I64 ((n:Int)+1))∧K (a,b,r8,(n:Int)+1):=fun a b hq=>by
   refine worse_w _ _ ?_
   have e:Jva z.2.2 2 = 2:=(worse_two _ _).2 (.inr rfl)
   rw [e,if_pos rfl]; exact hq
  unfold wcut
  dsimp only
  rcases hok l[n] (List.getElem_mem hlt) with e | ⟨k,e⟩ | ⟨s,e,hs⟩
  ·rw [e] at stop go ⊢
   rw [bstep_C] at stop go
   rw [if_neg (show ¬ evC.Kind = 1 by decide)]
   try dsimp only
   rw [if_neg (show ¬ evC.Kind = 1 by decide),if_neg (show ¬ evC.Kind = 2 by decide),if_pos (show evC.Kind = 3 from rfl)]
   refine shuts_w hI (by omega) evC (fun s hs=>?_) (fun hs r' t'=>?_)
   ·have hz:s.2.2 = 0:=by
     have hs':=hs
     unfold shutB at hs'
     split at hs'
     ·cases hs'
     ·split at hs'
      ·cases hs'; rfl
      ·cases hs'
    have:=go s (by rw [hs]; rfl) (by rw [hz]; decide) (hI.shuts hs)
    rw [hz] at this
    exact this
   ·exact bad _ _ (stop (by rw [hs]; rfl))
  ·rw [e] at stop go ⊢
   rw [bstep_O] at stop go
   rw [show (evO k).Kind = 2 from rfl,if_neg (show ¬ (2:Int) = 1 by decide)]
   try dsimp only
   rw [if_neg (show ¬ (2:Int) = 1 by decide),if_pos rfl]
   refine opens_w hI (by omega) (evO k) (fun hm=>?_) (fun hm=>?_)
   ·refine go (Yqb z.1 z.2.1 k 0) (by rw [if_pos (show mayB z.1 k = true from hm)]) ?_ (BInv_opens hI k 0 hm)
    unfold Yqb
    dsimp only
    split
    ·decide
    ·split
     ·decide
     ·split <;> decide
   ·have hm2:mayB z.1 k = false:=hm
    exact bad _ _ (stop (by rw [hm2]; rfl))
  ·rw [e] at stop go ⊢
   rw [bstep_T] at stop go
   rw [if_pos (show (evT s).Kind = 1 from rfl)]
   refine may_w z.1 z.2.1 (by omega) 46 ?_
   cases hm:mayB z.1 46 with
   | false=>
    rw [if_pos (by simp)]
    exact stop (by rw [if_neg (by simpa using hm)])
   | true=>
    rw [if_neg (by simp)]
    try dsimp only
    rw [if_pos (show (evT s).Kind = 1 from rfl)]
    refine texts_w hI (by omega) (evT s) hs hm ?_
    refine go (textB z.1 z.2.1 s 0) (by rw [if_pos hm]) ?_ (hI.texts s hs 0)
    unfold textB
    dsimp only
    split
    ·dsimp only
     split
     ·decide
     ·split <;> decide
    ·dsimp only
     split <;> decide
 ·rw [if_neg (by omega)]
  have:n = l.length:=by omega
  subst this
  rw [List.take_length] at hr
  rw [hr] at h; exact h
end Go.Proofs.YtpkhmfedaaoalaaGreatDoor
