/- ItemsGlues: a part of its proof (packed by a program). -/
import Derived.Test.YtpkhmfedaaoalaaGreatDoorItg
set_option linter.all false
namespace Go.Proofs.YtpkhmfedaaoalaaGreatDoor
open Go Go.Proofs.YtpkhmfedaaoalaaGreatDoor.AM Fo
inductive Gt
 | nil
 | text (x:Za) (r:Gt)
 | node (x:Za) (k r:Gt)
namespace Gt
def gn:Gt→List Za
 | nil=>[]
 | text x r=>x :: gn r
 | node x k r=>x :: (gn k++gn r)
def gok:Gt→Prop
 | nil=>True
 | text x r=>x.Kind = 46∧x.Size = 1∧gok r
 | node x k r=>x.Kind≠46∧x.Size = ((gn k).length:Int)+1∧gok k∧gok r
def gdep:Gt→Nat
 | nil=>0
 | text _ r=>max 1 (gdep r)
 | node _ k r=>max (gdep k+1) (gdep r)
def addL (out:List Za) (s:ByteArray):List Za:=match out.getLast? with
 | some v=>out.dropLast++[⟨v.Kind,v.Text++s,v.At,v.Size⟩]
 | none=>out
def Z2a:Gt→List Za→Bool→List Za
 | nil,out,_=>out
 | text x r,out,j=>if x.Text = ⟨#[]⟩ then Z2a r out j else if j then Z2a r (addL out x.Text) true else Z2a r (out++[x]) true
 | node x k r,out,_=>Z2a r ((out++[⟨x.Kind,x.Text,x.At,((Z2a k [] false).length:Int)+1⟩])++Z2a k [] false) false
def mkG:Fo→List Za→Gt
 | .nil,_=>nil
 | .text _ _ r,x :: us=>text x (mkG r us)
 | .node _ k _ r,x :: us=>node x (mkG k (us.take (Zl k).length)) (mkG r (us.drop (Zl k).length))
 | _,[]=>nil
end Gt
open Gt
theorem addL_snoc (out:List Za) (v:Za) (s:ByteArray):addL (out++[v]) s = out++[⟨v.Kind,v.Text++s,v.At,v.Size⟩]:=by simp [addL]
theorem J4a (a b:ByteArray):(a++b).size = a.size+b.size:=by simp
theorem Ke:∀ (G:Gt) (out:List Za) (j:Bool),(j = true→out≠[])→(Z2a G out j).length≤out.length+(gn G).length∧tlen (Z2a G out j) = tlen out+tlen (gn G)
 | .nil,out,j,_=>⟨Nat.le_refl _,rfl⟩
 | .text x r,out,j,hj=>by
  unfold Z2a
  by_cases e:x.Text = ⟨#[]⟩
  ·rw [if_pos e]
   obtain ⟨h1,h2⟩:=Ke r out j hj
   refine ⟨by simp [gn]; omega,by rw [h2]; simp only [gn,Yv,e]; show _ = _+(0+_); omega⟩
  ·rw [if_neg e]
   cases j with
   | true=>
    rw [if_pos rfl]
    rcases X3a out with q | ⟨o0,v,rfl⟩
    ·exact absurd q (hj rfl)
    ·rw [addL_snoc]
     obtain ⟨h1,h2⟩:=Ke r (o0++[⟨v.Kind,v.Text++x.Text,v.At,v.Size⟩]) true (by simp)
     refine ⟨by simp [gn] at h1 ⊢; omega,?_⟩
     rw [h2]; simp only [gn,Yv,Y7,J4a]; omega
   | false=>
    rw [if_neg (by simp)]
    obtain ⟨h1,h2⟩:=Ke r (out++[x]) true (by simp)
    refine ⟨by simp [gn] at h1 ⊢; omega,by rw [h2]; simp only [gn,Yv,Y7]; show _+(_+0)+_ = _; omega⟩
 | .node x k r,out,j,hj=>by
  unfold Z2a
  obtain ⟨a1,a2⟩:=Ke k [] false (by simp)
  obtain ⟨h1,h2⟩:=Ke r ((out++[⟨x.Kind,x.Text,x.At,((Z2a k [] false).length:Int)+1⟩])++Z2a k [] false) false (by simp)
  refine ⟨by simp [gn] at h1 a1 ⊢; omega,?_⟩
  rw [h2,Y7,Y7,a2]
  simp only [gn,Yv,Y7]
  show _+(_+0)+(0+_)+_ = _
  omega
theorem text_tlen {x:Za} {t:List Za} (h:x∈t):x.Text.size≤tlen t:=by
 induction t with
 | nil=>cases h
 | cons y t ih=>
  rw [Yv]
  rcases List.mem_cons.1 h with rfl | h
  ·omega
  ·have:=ih h; omega
theorem packed_wn (t:List Za) (hl:t.length≤1000000) (htl:tlen t≤1000000000000):∀ (k:Nat) (G:Gt) (pre post:List Za),gdep G < k→gok G→t = pre++gn G++post→∀ {Q:List Za→Prop},Q (Z2a G [] false)→Y9.wn k t (pre.length:Int) ((pre.length:Int)+(gn G).length) Q
 | 0,_,_,_,h,_,_,_,_=>by omega
 | k+1,G,pre,post,hd,hg,ht,Q,hq=>by
  unfold Y9.wn
  refine Zib (fun s=>∃ (R:Gt) (p:List Za),t = p++gn R++post∧s.1 = (p.length:Int)∧p.length+(gn R).length = pre.length+(gn G).length∧gdep R≤gdep G∧gok R∧Z2a R s.2.1 s.2.2 = Z2a G [] false∧(s.2.2 = true→s.2.1≠[])∧s.2.1.length+(gn R).length≤(gn G).length∧tlen s.2.1≤tlen t)
   (fun s=>((pre.length:Int)+(gn G).length - s.1).toNat) ⟨G,pre,ht,rfl,rfl,Nat.le_refl _,hg,rfl,by simp,by simp,by show 0≤_; omega⟩ ?_
  rintro ⟨_,out,j⟩ ⟨R,p,h1,h2,h3,h4,h5,h6,h7,h8,h9⟩ K hK
  dsimp only at h2 h6 h7 h8 h9 ⊢
  subst h2
  have hlen:t.length = p.length+(gn R).length+post.length:=by rw [h1]; simp; omega
  have htl2:tlen t = tlen p+tlen (gn R)+tlen post:=by rw [h1,Y7,Y7]
  have hpf:=(Ke R out j h7).2
  have hpg:=(Ke G [] false (by simp)).2
  have htG:tlen t = tlen pre+tlen (gn G)+tlen post:=by rw [ht,Y7,Y7]
  rw [h6,hpg] at hpf
  have e00:tlen ([]:List Za) = 0:=rfl
  rw [e00] at hpf
  have hglen:t.length = pre.length+(gn G).length+post.length:=by rw [ht]; simp; omega
  generalize Z2a G [] false = PG at h6 hq hK hpg
  cases R with
  | nil=>
   simp only [gn,List.length_nil] at h3
   rw [if_neg (by omega)]
   unfold Z2a at h6
   rw [h6]; exact hq
  | text x r=>
   simp only [gn,List.length_cons] at h3 hlen h8
   obtain ⟨g1,g2,g3⟩:=h5
   rw [if_pos (by omega)]
   have hget:t[((p.length:Nat):Int).toNat]? = some x:=by
    rw [h1,Int.toNat_natCast,List.append_assoc,List.getElem?_append_right (Nat.le_refl _)]; simp [gn]
   refine ⟨by omega,x,hget,by constructor <;> omega,by rw [g2]; constructor <;> omega,?_⟩
   have e:((p.length:Int)+1) = ((p++[x]).length:Int):=by simp
   have h1':t = (p++[x])++gn r++post:=by rw [h1]; simp [gn]
   simp only [gdep] at h4
   simp only [gn,Yv] at hpf htl2
   have inner:∀ {Q':List Za→Prop},Q' []→Y9.wn k t ((p.length:Int)+1) ((p.length:Int)+x.Size) Q':=by
    intro Q' hq'
    have:=packed_wn t hl htl k Gt.nil (p++[x]) (gn r++post) (by simp only [gdep]; omega) trivial (by rw [h1']; simp [gn]) (Q:=Q') hq'
    simp only [gn,List.length_nil,Int.natCast_zero,Int.add_zero,← e] at this
    rw [g2]; exact this
   refine inner ?_
   rw [g2]
   refine ⟨by constructor <;> omega,?_⟩
   rw [if_pos g1]
   unfold wcut
   dsimp only
   unfold Z2a at h6
   have nx:∀ out' j',Z2a r out' j' = PG→(j' = true→out'≠[])→out'.length≤out.length+1→tlen out'≤tlen out+x.Text.size→K ((p.length:Int)+1,out',j'):=by
    intro out' j' a b c d
    refine hK _ ⟨r,p++[x],h1',e,by simp; omega,by omega,g3,a,b,by dsimp only; omega,by dsimp only; omega⟩ (by dsimp only; omega)
   by_cases et:x.Text = ⟨#[]⟩
   ·rw [if_pos et,if_neg (by simp),if_pos et]
    rw [if_pos et] at h6
    exact nx out j h6 h7 (by omega) (by omega)
   ·rw [if_neg et]
    rw [if_neg et] at h6
    cases j with
    | true=>
     rw [if_pos rfl]
     rw [if_pos rfl] at h6
     rcases X3a out with q | ⟨o0,v,rfl⟩
     ·exact absurd q (h7 rfl)
     ·have hol:(o0++[v]).length = o0.length+1:=by simp
      have hv:v.Text.size≤tlen (o0++[v]):=text_tlen (by simp)
      refine ⟨by rw [hol]; rw [hol] at h8; constructor <;> omega,by rw [hol]; omega,v,Va _ _,by omega,?_⟩
      rw [Ylb]
      rw [addL_snoc] at h6
      refine nx _ true h6 (by simp) (by simp) ?_
      rw [Y7,Y7,Yv,Yv,J4a]; omega
    | false=>
     rw [if_neg (by simp),if_neg et]
     rw [if_neg (by simp)] at h6
     refine ⟨by simp; omega,nx _ true h6 (by simp) (by simp) (by rw [Y7,Yv]; show _+(_+0)≤_; omega)⟩
  | node x q r=>
   simp only [gn,List.length_cons,List.length_append] at h3 hlen h8
   obtain ⟨g1,g2,g3,g4⟩:=h5
   rw [if_pos (by omega)]
   have hget:t[((p.length:Nat):Int).toNat]? = some x:=by
    rw [h1,Int.toNat_natCast,List.append_assoc,List.getElem?_append_right (Nat.le_refl _)]; simp [gn]
   have e:((p.length:Int)+1) = ((p++[x]).length:Int):=by simp
   have e2:((p.length:Int)+x.Size) = ((p++[x]).length:Int)+(gn q).length:=by rw [g2]; simp; omega
   simp only [gdep] at h4
   simp only [gn,Yv,Y7] at hpf htl2
   refine ⟨by omega,x,hget,by constructor <;> omega,by rw [g2]; constructor <;> omega,?_⟩
   rw [e,e2]
   obtain ⟨f1,f2⟩:=Ke q [] false (by simp)
   rw [e00] at f2
   simp only [List.length_nil] at f1
   refine packed_wn t hl htl k q (p++[x]) (gn r++post) (by omega) g3 (by rw [h1]; simp [gn]) ?_
   rw [← e2]
   refine ⟨by rw [g2]; constructor <;> omega,?_⟩
   rw [if_neg g1]
   unfold Z2a at h6
   refine ⟨by constructor <;> omega,by simp; omega,by simp; omega,?_⟩
   refine hK _ ⟨r,p++(x :: gn q),by rw [h1]; simp [gn],by rw [g2]; simp; try omega,by simp; try omega,by omega,g4,h6,by simp,by simp; try omega,?_⟩ (by rw [g2]; dsimp only; omega)
   have ez:tlen [(⟨x.Kind,x.Text,x.At,((Z2a q [] false).length:Int)+1⟩:Za)] = x.Text.size:=by simp [tlen]
   dsimp only
   rw [Y7,Y7,ez,f2]
   omega
theorem packed_w (G:Gt) (hg:gok G) (hl:(gn G).length≤1000000) (htl:tlen (gn G)≤1000000000000) {Q:List Za→Prop} (h:Q (Z2a G [] false)):Y9.w (gn G) 0 ((gn G).length:Int) Q:=by
 refine ⟨gdep G+1,?_⟩
 have:=packed_wn (gn G) hl htl (gdep G+1) G [] [] (Nat.lt_succ_self _) hg (by simp) h
 simpa using this
theorem mkG_gn:∀ (F:Fo) (u:List Za),u.length = (Zl F).length→gn (mkG F u) = u
 | .nil,u,h=>by rw [List.length_eq_zero_iff.1 h]; rfl
 | .text x cs r,[],h=>by simp [Zl] at h
 | .text x cs r,y :: us,h=>by simp only [mkG,gn]; rw [mkG_gn r us (by simpa [Zl] using h)]
 | .node o k c r,[],h=>by simp [Zl] at h
 | .node o k c r,y :: us,h=>by
  simp only [Zl,List.length_cons,List.length_append] at h
  simp only [mkG,gn]
  rw [mkG_gn k _ (by simp; omega),mkG_gn r _ (by simp; omega),List.take_append_drop]
def ks (x:Za):Int×Int:=(x.Kind,x.Size)
theorem mkG_ok:∀ (F:Fo) (u:List Za),plF F→u.map ks = (Zl F).map ks→gok (mkG F u)
 | .nil,u,_,_=>trivial
 | .text x cs r,[],_,h=>by simp [Zl] at h
 | .text x cs r,y :: us,hp,h=>by
  simp only [Zl,List.map_cons,List.cons.injEq,ks,Prod.mk.injEq] at h
  exact ⟨h.1.1,h.1.2,mkG_ok r us hp.2 h.2⟩
 | .node o k c r,[],_,h=>by simp [Zl] at h
 | .node o k c r,y :: us,hp,h=>by
  simp only [Zl,List.map_cons,List.map_append,List.cons.injEq] at h
  obtain ⟨h1,h2⟩:=h
  simp only [ks,Prod.mk.injEq] at h1
  have hlen:us.length = (Zl k).length+(Zl r).length:=by have:=congrArg List.length h2; simpa using this
  have e1:(us.take (Zl k).length).map ks = (Zl k).map ks:=by
   rw [List.map_take,h2,List.take_append_of_le_length (Nat.le_of_eq (by simp)),List.take_of_length_le (Nat.le_of_eq (by simp))]
  have e2:(us.drop (Zl k).length).map ks = (Zl r).map ks:=by
   rw [List.map_drop,h2]; simp
  refine ⟨by rw [h1.1]; exact nameB_dot hp.1,?_,mkG_ok k _ hp.2.1 e1,mkG_ok r _ hp.2.2 e2⟩
  rw [h1.2,mkG_gn k _ (by simp; omega)]
  simp; omega
theorem sqL_ks:∀ (xs:List Za) (os:List Int) (i:Int) (m:Jua),(sqL xs os i m).1.map ks = xs.map ks
 | [],_,_,_=>rfl
 | x :: xs,[],_,_=>rfl
 | x :: xs,o :: os,i,m=>by
  unfold sqL
  split
  ·simp only [List.map_cons]; rw [sqL_ks xs os]; rfl
  ·simp only [List.map_cons]; rw [sqL_ks xs os]
theorem sqEnd_ks (m:Jua):∀ (xs:List Za) (i:Int),(Zpb m xs i).map ks = xs.map ks
 | [],_=>rfl
 | x :: xs,i=>by
  unfold Zpb
  simp only [List.map_cons]; rw [sqEnd_ks m xs]
  congr 1
  unfold sqFin; split <;> rfl
theorem squeezed_ks (t:List Za) (ow:List Int):(Wg t ow).map ks = t.map ks:=by
 unfold Wg; rw [sqEnd_ks,sqL_ks]
theorem squeezed_tlen (t:List Za) (ow:List Int):tlen (Wg t ow)≤tlen t:=by
 unfold Wg
 have h1:=Yhb t ow 0 []
 have h2:=K1a (sqL t ow 0 []).2 (sqL t ow 0 []).1 0
 omega
def sameB (a b:List Za):Bool:=decide (a.length = b.length) && (a.zip b).all fun p=>decide (p.1.Kind = p.2.Kind∧p.1.Text = p.2.Text∧p.1.Size = p.2.Size)
theorem sameB_tlen {a b:List Za} (h:sameB a b = true):tlen a = tlen b:=by
 simp only [sameB,Bool.and_eq_true,decide_eq_true_eq] at h
 obtain ⟨hl,h⟩:=h
 induction a generalizing b with
 | nil=>cases b with
  | nil=>rfl
  | cons y b=>simp at hl
 | cons x a ih=>cases b with
  | nil=>simp at hl
  | cons y b=>
   simp only [List.zip_cons_cons,List.all_cons,Bool.and_eq_true,decide_eq_true_eq] at h
   rw [Yv,Yv,h.1.2.1,ih (by simpa using hl) h.2]
theorem same_w (a b:List Za) (hl:a.length≤1000000) {Q:Bool→Prop} (h:Q (sameB a b)):Zza.w a b Q:=by
 unfold Zza.w Zq.w
 unfold sameB at h
 by_cases hab:a.length = b.length
 ·rw [if_pos (by omega)]
  rw [decide_eq_true hab,Bool.true_and] at h
  refine wfor (fun i=>i) (fun n=>(n:Int)) a.length (fun n=>((a.zip b).take n).all (fun p=>decide (p.1.Kind = p.2.Kind∧p.1.Text = p.2.Text∧p.1.Size = p.2.Size)) = true) (fun _ _=>rfl) rfl (by simp) ?_ ?_
  ·intro n hn hp K hK
   try dsimp only
   rw [if_pos (by omega)]
   have hz:n < (a.zip b).length:=by simp; omega
   have ez:(a.zip b)[n] = (a[n],b[n]'(by omega)):=by simp
   have et:((a.zip b).take (n+1)).all (fun p=>decide (p.1.Kind = p.2.Kind∧p.1.Text = p.2.Text∧p.1.Size = p.2.Size)) = decide (a[n].Kind = (b[n]'(by omega)).Kind∧a[n].Text = (b[n]'(by omega)).Text∧a[n].Size = (b[n]'(by omega)).Size):=by
    rw [List.take_add_one,List.getElem?_eq_getElem hz,List.all_append,hp,ez]; simp
   refine ⟨by omega,a[n],W7 a hn,b[n]'(by omega),W7 b (by omega),?_⟩
   have stop:¬ (a[n].Kind = (b[n]'(by omega)).Kind∧a[n].Text = (b[n]'(by omega)).Text∧a[n].Size = (b[n]'(by omega)).Size)→Q false:=by
    intro hne
    have hf:(a.zip b).all (fun p=>decide (p.1.Kind = p.2.Kind∧p.1.Text = p.2.Text∧p.1.Size = p.2.Size)) = false:=by
     cases e:(a.zip b).all (fun p=>decide (p.1.Kind = p.2.Kind∧p.1.Text = p.2.Text∧p.1.Size = p.2.Size)) with
     | false=>rfl
     | true=>
      have:=List.all_eq_true.1 e _ (List.getElem_mem hz)
      rw [ez] at this
      exact absurd (by simpa using this) hne
    rw [hf] at h; exact h
   unfold J2.w
   by_cases c1:a[n].Kind = (b[n]'(by omega)).Kind
   ·rw [if_pos c1]
    by_cases c2:a[n].Text = (b[n]'(by omega)).Text
    ·rw [if_pos c2]
     by_cases c3:a[n].Size = (b[n]'(by omega)).Size
     ·dsimp only
      rw [if_neg (by simp [c3])]
      refine ⟨V8 (by omega) (by omega),?_⟩
      have:=hK (by rw [et]; simp [c1,c2,c3])
      simpa using this
     ·dsimp only; rw [if_pos (by simp [c3])]; exact stop fun q=>c3 q.2.2
    ·rw [if_neg c2]; dsimp only; rw [if_pos (by simp)]; exact stop fun q=>c2 q.2.1
   ·rw [if_neg c1]; dsimp only; rw [if_pos (by simp)]; exact stop fun q=>c1 q.1
  ·intro hp K
   try dsimp only
   rw [if_neg (by omega)]
   rw [List.take_of_length_le (by simp; omega)] at hp
   rw [hp] at h; exact h
 ·rw [if_neg (by omega)]
  rw [decide_eq_false hab] at h; exact h
def packF (F:Fo):List Za:=Z2a (mkG F (Wg (Zl F) (ownF 0 0 F))) [] false
theorem K0a:∀ F:Fo,tlen (Zl F)≤(toks F).length
 | .nil=>Nat.le_refl _
 | .text x cs r=>by have:=K0a r; simp only [Zl,toks,Yv,str_size,List.length_cons,List.length_append]; omega
 | .node o k c r=>by have:=K0a r; have:=K0a k; simp only [Zl,toks,Yv,Y7,List.length_cons,List.length_append]; show 0+_≤_; omega
theorem normOf_w (F:Fo) (hl:(toks F).length≤1000000) {Q:List Za×Int→Prop} (h:Q (if Xka F = 0 then (packF F,0) else ([],Xka F))):Zsb.w (Zl F) Q:=by
 unfold Zsb.w
 have hn:=Yra F
 have ht:=K0a F
 refine Check_w F hl ?_
 by_cases hc:Xka F = 0
 ·rw [if_pos hc] at h ⊢
  obtain ⟨hp,hw⟩:=checkF_ok hc
  refine ⟨⟨by omega,fun x hx=>by have:=text_le F x hx; omega⟩,owners_w F (by omega) hp ⟨X2a F 0 0,?_⟩⟩
  have hks:=squeezed_ks (Zl F) (ownF 0 0 F)
  have hlen:(Wg (Zl F) (ownF 0 0 F)).length = (Zl F).length:=by have:=congrArg List.length hks; simpa using this
  have hst:=squeezed_tlen (Zl F) (ownF 0 0 F)
  have hgn:=mkG_gn F _ hlen
  have:=packed_w (mkG F (Wg (Zl F) (ownF 0 0 F))) (mkG_ok F _ hp hks) (by rw [hgn]; omega) (by rw [hgn]; omega) (Q:=fun r3=>Q (r3,0)) h
  rw [hgn,hlen] at this
  exact this
 ·rw [if_neg hc] at h ⊢; exact h
def isF (F:Fo):Bool:=decide (Xka F = 0) && sameB (Zl F) (packF F)
theorem Is_w2 (F:Fo) (hl:(toks F).length≤1000000) {Q:Bool→Prop} (h:Q (isF F)):Vra.w (Zl F) Q:=by
 unfold Vra.w
 have hn:=Yra F
 refine normOf_w F hl ?_
 unfold isF at h
 by_cases hc:Xka F = 0
 ·rw [if_pos hc]
  rw [decide_eq_true hc,Bool.true_and] at h
  dsimp only
  rw [if_pos rfl]
  exact same_w _ _ (by omega) h
 ·rw [if_neg hc]
  rw [decide_eq_false hc] at h
  dsimp only
  rw [if_neg hc]; exact h
theorem isF_flows {F:Fo} (h:isF F = true) (o:Int):okF (ofFlow o (prs (Zl F) (ownF 0 0 F))) 0:=by
 unfold isF at h
 simp only [Bool.and_eq_true,decide_eq_true_eq] at h
 obtain ⟨hp,hw⟩:=checkF_ok h.1
 have hks:=squeezed_ks (Zl F) (ownF 0 0 F)
 have hlen:(Wg (Zl F) (ownF 0 0 F)).length = (Zl F).length:=by have:=congrArg List.length hks; simpa using this
 have h1:=sameB_tlen h.2
 have h2:=(Ke (mkG F (Wg (Zl F) (ownF 0 0 F))) [] false (by simp)).2
 rw [mkG_gn F _ hlen] at h2
 refine squeezed_flows (X2a F 0 0).symm ?_ o
 unfold packF at h1
 rw [h1,h2]; show _ = 0+_; omega
def treeP (l:List Ze):List Za×Int:=match parse l with
 | some ([],F)=>if Xka F = 0 then (if isF F then (Zl F,0) else ([],2)) else ([],Xka F)
 | _=>([],2)
theorem Tree_w (l:List Ze) (hl:l.length≤1000000) {Q:List Za×Int→Prop} (h:Q (treeP l)):Jo.w l Q:=by
 unfold Jo.w
 unfold treeP at h
 refine grow_w l hl (fun st hst=>?_) (fun hn t r b=>?_)
 ·rw [if_neg (by simp)]
  obtain ⟨s,F⟩:=st
  rw [hst] at h
  cases s with
  | cons p s=>
   obtain ⟨g,o⟩:=p
   rw [if_pos (by simp [frow])]; exact h
  | nil=>
   rw [if_neg (by simp [frow])]
   have ht:=(parse_ok hst).1
   have hF:toks F = l:=by simpa [ftoks] using ht
   dsimp only at h ⊢
   show Vo.w ([]++Zl F) _
   rw [List.nil_append]
   refine Check_w F (by rw [hF]; exact hl) ?_
   by_cases hc:Xka F = 0
   ·rw [if_pos hc] at h ⊢
    show Vra.w ([]++Zl F) _
    rw [List.nil_append]
    refine Is_w2 F (by rw [hF]; exact hl) ?_
    cases e:isF F with
    | false=>rw [e] at h; rw [if_pos (by simp)]; exact h
    | true=>rw [e] at h; rw [if_neg (by simp)]; exact h
   ·rw [if_neg hc] at h ⊢; exact h
 ·rw [if_pos rfl]
  rw [hn] at h; exact h
structure TreeOk (l:List Ze) (F:Fo):Prop where
 t:toks F = l
 k:ok F
 p:plF F
 w:wfF 0 F
 f:∀ o,okF (ofFlow o (prs (Zl F) (ownF 0 0 F))) 0
theorem tree_ok {l:List Ze} (h:(treeP l).2 = 0):∃ F,TreeOk l F:=by
 unfold treeP at h
 split at h
 ·rename_i F hp
  by_cases hc:Xka F = 0
  ·rw [if_pos hc] at h
   cases e:isF F with
   | false=>rw [e] at h; cases h
   | true=>
    obtain ⟨h1,h2,h3⟩:=parse_ok hp
    obtain ⟨p,w⟩:=checkF_ok hc
    exact ⟨F,by simpa [ftoks] using h1,h3,p,w,isF_flows e⟩
  ·rw [if_neg hc] at h; exact absurd h hc
 ·cases h
end Go.Proofs.YtpkhmfedaaoalaaGreatDoor
