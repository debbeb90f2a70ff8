/- ItemsGlues: a part of its proof (packed by a program). -/
import Derived.Test.YtpkhmfedaaoalaaGreatDoorItk
set_option linter.all false
namespace Go.Proofs.YtpkhmfedaaoalaaGreatDoor
open Go Go.Proofs.YtpkhmfedaaoalaaGreatDoor.AM Fo
theorem vast_w (l:List Ze) (m:Zg) (hm:m.Widths.length = 128) {Q:Bool→Prop} (h1:Q true) (h2:l.length≤250→MetOk m→Q false):X3.w l m Q:=by
 unfold X3.w
 refine ⟨hm,?_⟩
 by_cases c1:250 < (l.length:Int)
 ·rw [if_pos c1]; exact h1
 rw [if_neg c1]
 by_cases c2:30 < (m.Pats.length:Int)
 ·rw [if_pos c2]; exact h1
 rw [if_neg c2]
 refine wfor (fun i=>i) (fun n=>(n:Int)) m.Pats.length (fun n=>∀ p∈m.Pats.take n,p.Letters.size≤1000∧p.Figures.size≤1000) (fun _ _=>rfl) rfl (by simp) ?_ ?_
 ·intro n hn hp K hK
  try dsimp only
  rw [if_pos (by omega)]
  refine ⟨by omega,m.Pats[n],W7 _ hn,?_⟩
  by_cases c3:40 < (m.Pats[n].Letters.size:Int)
  ·rw [if_pos c3]; exact h1
  rw [if_neg c3]
  by_cases c4:40 < (m.Pats[n].Figures.size:Int)
  ·rw [if_pos c4]; exact h1
  rw [if_neg c4]
  refine ⟨V8 (by omega) (by omega),?_⟩
  have:=hK (fun p hp2=>by
   rw [List.take_add_one,List.getElem?_eq_getElem hn] at hp2
   rcases List.mem_append.1 hp2 with hp2 | hp2
   ·exact hp p hp2
   ·simp at hp2; subst hp2; omega)
  simpa using this
 ·intro hp K
  try dsimp only
  rw [if_neg (by omega)]
  rw [List.take_length] at hp
  exact h2 (by omega) ⟨hm,by omega,hp⟩
theorem checkM_two (m:Zg):V8a m = 0∨V8a m = 7:=by unfold V8a; split; exact .inl rfl; exact .inr rfl
theorem item_cases {m:Zg} {t:Int} {c:Ze} {x:Zh} (h:x∈V7 m (t,c)):x.Tok = t∧((c.Kind = 1∧c.Ch = 32∧x.Kind = 2∧x.Width = wAt m 32∧x.Stretch = m.Stretch∧x.Shrink = m.Shrink)∨(c.Kind = 1∧c.Ch≠32∧x.Kind = 1∧x.Width = wAt m c.Ch.toNat)∨(c.Kind = 2∧c.Ch = 110∧x.Kind = 4)):=by
 unfold V7 at h
 dsimp only at h
 split at h
 ·rename_i e; simp at h; subst h; exact ⟨rfl,.inl ⟨e.1,e.2,rfl,rfl,rfl,rfl⟩⟩
 ·rename_i e
  split at h
  ·rename_i e2; simp at h; subst h; exact ⟨rfl,.inr (.inl ⟨e2,fun q=>e ⟨e2,q⟩,rfl,rfl⟩)⟩
  ·split at h
   ·rename_i e3; simp at h; subst h; exact ⟨rfl,.inr (.inr ⟨e3.1,e3.2,rfl⟩)⟩
   ·cases h
structure FlowOk (l:List Ze) (m:Zg) (p:Int) (k:Fo) (all:List Zh):Prop where
 r:0≤p∧p < l.length
 b:begB (l.getD p.toNat tok0) = true
 i:itemsP m l p.toNat = all
 n:(nh all).map (·.Tok) = innS (p+1) k
 s:p+1+tl k≤l.length
 h:HT all
 a:all.length≤2 * l.length
 e:∀ x∈nh all,∃ c,0≤x.Tok∧l[x.Tok.toNat]? = some c∧x∈V7 m (x.Tok,c)
theorem take_mu (m:Zg) (s:IS) (z:Int×Ze):(Jv m s z).1.length+2 * (Jv m s z).2.1.length≤s.1.length+2 * s.2.1.length+2:=by
 have hs:=Yib m s
 have hi:(V7 m z).length≤1:=by unfold V7; split <;> (try split) <;> (try split) <;> simp
 unfold Jv
 dsimp only
 split <;> split <;> simp <;> omega
theorem fold_mu (m:Zg):∀ (L:List (Int×Ze)) (s:IS),(L.foldl (Jv m) s).1.length+2 * (L.foldl (Jv m) s).2.1.length≤s.1.length+2 * s.2.1.length+2 * L.length
 | [],s=>by simp
 | z :: L,s=>by have:=fold_mu m L (Jv m s z); have:=take_mu m s z; simp only [List.foldl_cons,List.length_cons]; omega
theorem enum_len:∀ (l:List Ze) (i:Int),(enum l i).length = l.length
 | [],_=>rfl
 | x :: l,i=>by simp [enum,enum_len l]
theorem inn_len:∀ (F:Fo) (b:Int),((inn b F).length:Int)≤tl F
 | nil,_=>Int.le_refl _
 | text x cs r,b=>by
  have h1:=inn_len r (b+(cs.length+1:Nat))
  rw [inn,tl_text,List.length_append,enum_len,List.length_cons]; omega
 | node o k c r,b=>by
  have h1:=inn_len r (b+2+tl k)
  have h2:=inn_len k (b+1)
  have h3:=tl_nn k
  rw [inn,tl_node,List.length_append]
  split
  ·simp; omega
  ·split <;> simp <;> omega
theorem flow_ok {l:List Ze} {F:Fo} (hF:TreeOk l F) (m:Zg) {p:Int} {k:Fo} (h:(p,k)∈Ko 0 F):FlowOk l m p k (Wn m ((inn (p+1) k).foldl (Jv m) ([],[],0))):=by
 obtain ⟨h1,h2,h3,h4⟩:=itemsP_inn (m:=m) hF.t hF.k h
 obtain ⟨A,o,c,B,g1,g2,g3,g4,g5⟩:=V0a F 0 h hF.k
 rw [hF.t] at g1
 have hp:p = (A.length:Int):=by omega
 have hlen:l.length = A.length+1+(toks k).length+1+B.length:=by rw [g1]; simp; omega
 refine ⟨⟨h1,h2⟩,h3,h4,by rw [nh_items]; exact innS_eq m k _ g4,?_,HT_fold m _ _ (fun x hx=>by cases hx),?_,?_⟩
 ·have hlen:l.length = A.length+1+(toks k).length+1+B.length:=by rw [g1]; simp; omega
  have:=tl_len k; omega
 ·have a1:=Yib m ((inn (p+1) k).foldl (Jv m) ([],[],0))
  have a2:=fold_mu m (inn (p+1) k) ([],[],0)
  have a3:=inn_len k (p+1)
  have a4:=tl_len k
  simp only [List.length_nil] at a2
  omega
 ·intro x hx
  rw [nh_items] at hx
  obtain ⟨z,hz,hx⟩:=List.mem_flatMap.1 hx
  obtain ⟨t,c'⟩:=z
  obtain ⟨e1,_⟩:=item_cases hx
  obtain ⟨q1,q2⟩:=inn_get k _ _ _ hz
  subst e1
  refine ⟨c',by omega,?_,hx⟩
  have hi:x.Tok.toNat = A.length+1+(x.Tok - (p+1)).toNat:=by omega
  have hl2:=(List.getElem?_eq_some_iff.1 q2).1
  rw [g1,hi,List.getElem?_append_right (by omega)]
  have e3:A.length+1+(x.Tok - (p+1)).toNat - A.length = (x.Tok - (p+1)).toNat+1:=by omega
  rw [e3,List.getElem?_cons_succ,List.getElem?_append_left hl2]; exact q2
end Go.Proofs.YtpkhmfedaaoalaaGreatDoor
namespace Go.Proofs.YtpkhmfedaaoalaaGreatDoor
open Go Go.Proofs.YtpkhmfedaaoalaaGreatDoor.AM Fo
def chF:Fo→List Int
 | nil=>[]
 | text x cs r=>(x :: cs).map (·.Ch)++chF r
 | node o k c r=>(if o.Ch = 110 then [] else if o.Ch = 108 then [] else chF k)++chF r
def prF:Int→Int→Fo→List (Int×Int)
 | _,_,nil=>[]
 | b,f,text x cs r=>((x :: cs).map fun y=>(f,y.Ch))++prF (b+1) f r
 | b,f,node o k c r=>prF (b+1) (if Zpa o.Ch then b else f) k++prF (b+1+(Zl k).length) f r
theorem prs_append:∀ (a c:List Za) (os ps:List Int),a.length = os.length→prs (a++c) (os++ps) = prs a os++prs c ps
 | [],c,[],ps,_=>rfl
 | [],_,_ :: _,_,h=>by simp at h
 | _ :: _,_,[],_,h=>by simp at h
 | x :: a,c,o :: os,ps,h=>by
  simp only [List.cons_append,prs]
  rw [prs_append a c os ps (by simpa using h),List.append_assoc]
theorem prs_eq:∀ (F:Fo) (b f:Int),(∀ x∈toks F,Byte x.Ch)→prs (Zl F) (ownF b f F) = prF b f F
 | nil,_,_,_=>rfl
 | text x cs r,b,f,hb=>by
  have hb2:∀ c∈(x :: cs).map (·.Ch),Byte c:=by
   intro c hc
   obtain ⟨z,hz,rfl⟩:=List.mem_map.1 hc
   exact hb z (by simp only [toks]; rw [← List.cons_append]; exact List.mem_append_left _ hz)
  simp only [Zl,ownF,prs,prF,if_true]
  rw [prs_eq r _ _ (fun z hz=>hb z (by simp [toks,hz]))]
  unfold str
  rw [Vma hb2,List.map_map]; rfl
 | node o k c r,b,f,hb=>by
  simp only [Zl,ownF,prs,prF]
  rw [prs_append _ _ _ _ (X2a k _ _).symm,prs_eq k _ _ (fun z hz=>hb z (by simp [toks,hz])),prs_eq r _ _ (fun z hz=>hb z (by simp [toks,hz]))]
  have:Zd (⟨#[]⟩:ByteArray) = []:=rfl
  rw [this]
  split <;> rfl
theorem ofFlow_append (o:Int) (a b:List (Int×Int)):ofFlow o (a++b) = ofFlow o a++ofFlow o b:=by simp [ofFlow]
theorem ofFlow_none {o:Int} {P:List (Int×Int)} (h:∀ p∈P,p.1≠o):ofFlow o P = []:=by
 unfold ofFlow
 rw [List.filter_eq_nil_iff.2 (fun p hp=>by simpa using h p hp)]; rfl
theorem prF_own:∀ (F:Fo) (b f:Int),∀ p∈prF b f F,p.1 = f∨(b≤p.1∧p.1 < b+(Zl F).length)
 | nil,_,_,p,h=>by cases h
 | text x cs r,b,f,p,h=>by
  unfold prF at h
  rcases List.mem_append.1 h with h | h
  ·obtain ⟨y,_,rfl⟩:=List.mem_map.1 h; exact .inl rfl
  ·rcases prF_own r _ _ p h with h | h
   ·exact .inl h
   ·exact .inr (by simp [Zl]; omega)
 | node o k c r,b,f,p,h=>by
  unfold prF at h
  rcases List.mem_append.1 h with h | h
  ·rcases prF_own k _ _ p h with h | h
   ·split at h
    ·exact .inr (by simp [Zl]; omega)
    ·exact .inl h
   ·exact .inr (by simp [Zl]; omega)
  ·rcases prF_own r _ _ p h with h | h
   ·exact .inl h
   ·exact .inr (by simp [Zl]; omega)
theorem outside_own:∀ (F:Fo) (q b f f2:Int),wfF q F→insK q = false→prF b f F = prF b f2 F∧∀ p∈prF b f F,b≤p.1
 | nil,_,_,_,_,_,_=>⟨rfl,fun p h=>by cases h⟩
 | text x cs r,q,b,f,f2,h,hq=>absurd rfl (pair_out h.1 hq).1
 | node o k c r,q,b,f,f2,h,hq=>by
  obtain ⟨n1,n2,n3⟩:=pair_out h.1 hq
  obtain ⟨r1,r2⟩:=outside_own r q (b+1+(Zl k).length) f f2 h.2.2 hq
  unfold prF
  rw [← r1]
  cases e:insK o.Ch with
  | true=>
   rw [n3,e]
   refine ⟨rfl,fun p hp=>?_⟩
   rcases List.mem_append.1 hp with hp | hp
   ·rcases prF_own k _ _ p hp with h | h
    ·simp at h; omega
    ·omega
   ·have:=r2 p hp; omega
  | false=>
   rw [n3,e]
   obtain ⟨k1,k2⟩:=outside_own k o.Ch (b+1) f f2 h.2.1 e
   simp only [Bool.false_eq_true,if_false]
   refine ⟨by rw [k1],fun p hp=>?_⟩
   rcases List.mem_append.1 hp with hp | hp
   ·have:=k2 p hp; omega
   ·have:=r2 p hp; omega
theorem inside_own:∀ (F:Fo) (q b f:Int),wfF q F→plF F→insK q = true→f < b→ofFlow f (prF b f F) = chF F
 | nil,_,_,_,_,_,_,_=>rfl
 | text x cs r,q,b,f,h,hp,hq,hf=>by
  unfold prF chF
  rw [ofFlow_append,inside_own r q (b+1) f h.2 hp.2 hq (by omega)]
  congr 1
  unfold ofFlow
  rw [List.filter_eq_self.2 (fun p hp=>by obtain ⟨y,_,rfl⟩:=List.mem_map.1 hp; simp),List.map_map]; rfl
 | node o k c r,q,b,f,h,hp,hq,hf=>by
  unfold prF chF
  rw [ofFlow_append,inside_own r q (b+1+(Zl k).length) f h.2.2 hp.2.2 hq (by omega)]
  congr 1
  rcases pair_in h.1 hq with e | ⟨e,f1,f2⟩ | ⟨e,f1,f2⟩ | ⟨e,f1,f2⟩
  ·exact absurd e (nameB_dot hp.1)
  ·rw [f1,if_neg (by simp),if_neg (show ¬ o.Ch = 110 by omega),if_neg (show ¬ o.Ch = 108 by omega)]
   exact inside_own k o.Ch (b+1) f h.2.1 hp.2.1 f2 (by omega)
  ·rw [f1,if_pos rfl,if_pos e]
   refine ofFlow_none fun p hp=>?_
   rcases prF_own k _ _ p hp with h | h <;> omega
  ·rw [f1,if_neg (by simp),if_neg (show ¬ o.Ch = 110 by omega),if_pos e]
   refine ofFlow_none fun p hp=>?_
   have:=(outside_own k o.Ch (b+1) f f h.2.1 f2).2 p hp; omega
def flowsN:Int→Fo→List (Int×Fo)
 | _,nil=>[]
 | b,text x cs r=>flowsN (b+1) r
 | b,node o k c r=>(if Zpa o.Ch then [(b,k)] else [])++(flowsN (b+1) k++flowsN (b+1+(Zl k).length) r)
theorem flowsN_eq:∀ (F:Fo) (a b:Int),(flowsN a F).map (·.2) = (Ko b F).map (·.2)
 | nil,_,_=>rfl
 | text x cs r,a,b=>by rw [flowsN,Ko]; exact flowsN_eq r _ _
 | node o k c r,a,b=>by
  rw [flowsN,Ko,List.map_append,List.map_append,List.map_append,List.map_append,flowsN_eq k _ (b+1),flowsN_eq r _ (b+2+tl k)]
  congr 1
  split <;> rfl
theorem flowsN_mem:∀ (F:Fo) (b:Int),∀ z∈flowsN b F,b≤z.1∧z.1 < b+(Zl F).length
 | nil,_,z,h=>by cases h
 | text x cs r,b,z,h=>by have:=flowsN_mem r _ z h; simp [Zl]; omega
 | node o k c r,b,z,h=>by
  rw [flowsN] at h
  rcases List.mem_append.1 h with h | h
  ·split at h
   ·simp at h; subst h; simp [Zl]; omega
   ·cases h
  ·rcases List.mem_append.1 h with h | h
   ·have:=flowsN_mem k _ z h; simp [Zl]; omega
   ·have:=flowsN_mem r _ z h; simp [Zl]; omega
theorem flow_chars:∀ (F:Fo) (q b f:Int),wfF q F→plF F→f < b→∀ z∈flowsN b F,ofFlow z.1 (prF b f F) = chF z.2
 | nil,_,_,_,_,_,_,z,h=>by cases h
 | text x cs r,q,b,f,h,hp,hf,z,hz=>by
  rw [flowsN] at hz
  have hm:=flowsN_mem r _ z hz
  unfold prF
  rw [ofFlow_append,flow_chars r q (b+1) f h.2 hp.2 (by omega) z hz]
  rw [ofFlow_none (fun p hp=>by obtain ⟨y,_,rfl⟩:=List.mem_map.1 hp; dsimp only; omega)]; rfl
 | node o k c r,q,b,f,h,hp,hf,z,hz=>by
  rw [flowsN] at hz
  unfold prF
  rw [ofFlow_append]
  have hin:Zpa o.Ch = true→insK o.Ch = true:=by
   intro hfl
   cases e:insK q with
   | true=>
    rcases pair_in h.1 e with e | ⟨e,f1,f2⟩ | ⟨e,f1,f2⟩ | ⟨e,f1,f2⟩
    ·exact absurd e (nameB_dot hp.1)
    ·exact f2
    ·exact f2
    ·rw [f1] at hfl; cases hfl
   | false=>rw [← (pair_out h.1 e).2.2]; exact hfl
  rcases List.mem_append.1 hz with hz | hz
  ·split at hz
   ·rename_i hfl
    simp only [List.mem_singleton] at hz
    subst hz
    rw [if_pos hfl,inside_own k o.Ch (b+1) b h.2.1 hp.2.1 (hin hfl) (by omega)]
    rw [ofFlow_none (fun p hp=>by rcases prF_own r _ _ p hp with h | h <;> (dsimp only; omega)),List.append_nil]
   ·cases hz
  ·rcases List.mem_append.1 hz with hz | hz
   ·have hm:=flowsN_mem k _ z hz
    have hf':(if Zpa o.Ch = true then b else f) < b+1:=by split <;> omega
    rw [flow_chars k o.Ch (b+1) _ h.2.1 hp.2.1 hf' z hz]
    rw [ofFlow_none (fun p hp=>by rcases prF_own r _ _ p hp with h | h <;> omega),List.append_nil]
   ·have hm:=flowsN_mem r _ z hz
    rw [flow_chars r q _ f h.2.2 hp.2.2 (by omega) z hz]
    rw [ofFlow_none (fun p hp=>by
     rcases prF_own k _ _ p hp with h | h
     ·split at h <;> omega
     ·omega)]; rfl
theorem chars_ok {l:List Ze} {F:Fo} (hF:TreeOk l F) (hb:∀ x∈l,Byte x.Ch) {p:Int} {k:Fo} (h:(p,k)∈Ko 0 F):okF (chF k) 0:=by
 have h1:k∈(flowsN 0 F).map (·.2):=by rw [flowsN_eq F 0 0]; exact List.mem_map.2 ⟨_,h,rfl⟩
 obtain ⟨z,hz,rfl⟩:=List.mem_map.1 h1
 have h2:=hF.f z.1
 rw [prs_eq F 0 0 (by rw [hF.t]; exact hb),(outside_own F 0 0 0 (-1) hF.w (by decide)).1,flow_chars F 0 0 (-1) hF.w hF.p (by omega) z hz] at h2
 exact h2
theorem enum_ch:∀ (l:List Ze) (i:Int),(∀ y∈l,y.Kind = 1)→(enum l i).filter (fun z=>decide (z.2.Kind = 1)) = enum l i∧(enum l i).map (·.2.Ch) = l.map (·.Ch)
 | [],_,_=>⟨rfl,rfl⟩
 | x :: l,i,h=>by
  obtain ⟨h1,h2⟩:=enum_ch l (i+1) (fun y hy=>h y (by simp [hy]))
  exact ⟨by simp only [enum]; rw [List.filter_cons_of_pos (by simpa using h x (by simp)),h1],by simp only [enum,List.map_cons,h2]⟩
theorem inn_chars:∀ (F:Fo) (b:Int),ok F→((inn b F).filter fun z=>decide (z.2.Kind = 1)).map (·.2.Ch) = chF F
 | nil,_,_=>rfl
 | text x cs r,b,hk=>by
  obtain ⟨h1,h2⟩:=enum_ch (x :: cs) b (fun y hy=>by rcases List.mem_cons.1 hy with rfl | hy; exact hk.1; exact hk.2.1 y hy)
  rw [inn,chF,List.filter_append,List.map_append,h1,h2,inn_chars r _ hk.2.2.2]
 | node o k c r,b,hk=>by
  obtain ⟨h1,h2,h3,h4,h5⟩:=hk
  rw [inn,chF,List.filter_append,List.map_append,inn_chars r _ h5]
  congr 1
  have e1:decide ((b,o).2.Kind = 1) = false:=by simp [h1]
  have e2:decide ((b+1+tl k,c).2.Kind = 1) = false:=by simp [h2]
  split
  ·rw [List.filter_cons_of_neg (by rw [e1]; simp)]; rfl
  ·split
   ·rfl
   ·rw [List.filter_cons_of_neg (by rw [e1]; simp),List.filter_append,List.filter_cons_of_neg (by rw [e2]; simp)]
    simp [inn_chars k _ h4]
def GL (m:Zg):List Zh→Int→Bool→Prop
 | [],w,any=>w = 2→any = false
 | x :: X,w,any=>if x.Kind = 4 then GL m X w any else (x.Kind = 2→w≠2∧x.Stretch = m.Stretch∧x.Shrink = m.Shrink)∧GL m X x.Kind true
theorem glues (m:Zg):∀ (L:List (Int×Ze)) (b w:Int) (any:Bool),okF ((L.filter fun z=>decide (z.2.Kind = 1)).map (·.2.Ch)) b→(w = 2→any = false∨b = 32)→(any = false→b = 0)→GL m (L.flatMap (V7 m)) w any
 | [],b,w,any,h,hw,_=>fun e=>(hw e).elim id fun q=>absurd q h
 | z :: L,b,w,any,h,hw,ha=>by
  rw [List.flatMap_cons]
  unfold V7
  by_cases k1:z.2.Kind = 1
  ·rw [List.filter_cons_of_pos (by simpa using k1)] at h
   simp only [List.map_cons,okF] at h
   obtain ⟨h1,h2⟩:=h
   by_cases k2:z.2.Ch = 32
   ·rw [if_pos ⟨k1,k2⟩]
    have hw32:isW z.2.Ch = true:=by rw [k2]; rfl
    have h1':=h1 hw32
    rw [if_pos hw32] at h2
    show GL m (⟨2,_,_,_,_⟩ :: _) w any
    unfold GL
    rw [if_neg (show ¬ (2:Int) = 4 by decide)]
    refine ⟨fun _=>⟨fun e=>?_,rfl,rfl⟩,glues m L 32 2 true h2 (fun _=>.inr rfl) (by simp)⟩
    rcases hw e with q | q
    ·exact h1'.1 (ha q)
    ·exact h1'.2 q
   ·rw [if_neg (fun q=>k2 q.2),if_pos k1]
    show GL m (⟨1,_,_,_,_⟩ :: _) w any
    unfold GL
    rw [if_neg (show ¬ (1:Int) = 4 by decide)]
    exact ⟨(fun e=>by cases e),glues m L _ 1 true h2 (fun e=>by cases e) (by simp)⟩
  ·rw [List.filter_cons_of_neg (by simpa using k1)] at h
   rw [if_neg (fun q=>k1 q.1),if_neg k1]
   split
   ·show GL m (⟨4,_,_,_,_⟩ :: _) w any
    unfold GL
    rw [if_pos rfl]
    exact glues m L b w any h hw ha
   ·rw [List.nil_append]; exact glues m L b w any h hw ha
def LetI (l:List Ze) (y:Zh):Prop:=y.Kind = 1∧0≤y.Tok∧∃ c,l[y.Tok.toNat]? = some c∧isL c.Ch = true
def Hy (l:List Ze) (m:Zg):Option Zh→List Zh→Prop
 | _,[]=>True
 | p,x :: X=>(x.Kind = 3→(∃ q,p = some q∧LetI l q)∧(∃ y,X.head? = some y∧LetI l y∧y.Tok = x.Tok)∧x.Width = wAt m 45∧x.Stretch = 0∧x.Shrink = 0)∧Hy l m (some x) X
def HyA (l:List Ze) (m:Zg) (X:List Zh):Prop:=∀ p,Hy l m p X
theorem Hy_append {l:List Ze} {m:Zg}:∀ (a b:List Zh) (p:Option Zh),Hy l m p a→HyA l m b→Hy l m p (a++b)
 | [],b,p,_,h=>h p
 | x :: a,b,p,h1,h2=>by
  refine ⟨fun e=>?_,Hy_append a b _ h1.2 h2⟩
  obtain ⟨g1,⟨y,g2,g3⟩,g4⟩:=h1.1 e
  refine ⟨g1,⟨y,?_,g3⟩,g4⟩
  cases a with
  | nil=>cases g2
  | cons z a=>exact g2
theorem HyA.append {l:List Ze} {m:Zg} {a b:List Zh} (h1:HyA l m a) (h2:HyA l m b):HyA l m (a++b):=fun p=>Hy_append a b p (h1 p) h2
theorem HyA_item (l:List Ze) (m:Zg) (z:Int×Ze):HyA l m (V7 m z):=by
 intro p
 have:∀ x∈V7 m z,x.Kind≠3:=by
  intro x hx e
  have:=nh_item m z
  rw [← this] at hx
  have:=(List.mem_filter.1 hx).2
  simp [e] at this
 generalize V7 m z = X at this
 induction X generalizing p with
 | nil=>trivial
 | cons x X ih=>exact ⟨fun e=>absurd e (this x (by simp)),ih _ (fun y hy=>this y (by simp [hy]))⟩
def WOk (l:List Ze) (fr:Int) (w:List Int) (i:Int):Prop:=∀ (n:Nat) c,w[n]? = some c→isL c = true∧0≤fr+i+n∧∃ x,l[(fr+i+n).toNat]? = some x∧x.Ch = c
theorem Hy_word (l:List Ze) (m:Zg) (pts:List Int) (hp:∀ x∈pts,2≤x) (fr:Int):∀ (w:List Int) (i:Int) (p:Option Zh),WOk l fr w i→0≤i→(1≤i→∃ q,p = some q∧LetI l q)→Hy l m p (Jda m pts fr w i)
 | [],_,_,_,_,_=>trivial
 | c :: w,i,p,hw,hi,hq=>by
  unfold Jda
  have h0:=hw 0 c rfl
  have hbox:LetI l ⟨1,wAt m c.toNat,0,0,fr+i⟩:=by
   obtain ⟨a1,a2,x,a3,a4⟩:=h0
   simp only [Int.natCast_zero,Int.add_zero] at a2 a3
   exact ⟨rfl,a2,x,a3,by rw [a4]; exact a1⟩
  have hw':WOk l fr w (i+1):=by
   intro n d hd
   have:=hw (n+1) d (by simpa using hd)
   have e:fr+i+((n+1:Nat):Int) = fr+(i+1)+n:=by omega
   rw [e] at this; exact this
  have rest:=Hy_word l m pts hp fr w (i+1) (some ⟨1,wAt m c.toNat,0,0,fr+i⟩) hw' (by omega) (fun _=>⟨_,rfl,hbox⟩)
  by_cases e:pts.contains i = true
  ·rw [if_pos e]
   have h2:=hp i (List.contains_iff_mem.1 e)
   refine ⟨fun _=>⟨hq (by omega),⟨_,rfl,hbox,rfl⟩,rfl,rfl,rfl⟩,⟨(fun q=>by cases q),rest⟩⟩
  ·rw [if_neg e]
   exact ⟨(fun q=>by cases q),rest⟩
theorem HyA_spell (l:List Ze) (m:Zg) (s:IS) (h1:HyA l m s.1) (h2:WOk l s.2.2 s.2.1 0):HyA l m (Wn m s):=by
 unfold Wn
 refine h1.append fun p=>?_
 exact Hy_word l m _ (fun x hx=>(points_mem hx).1) _ _ 0 p h2 (by omega) (fun h=>by omega)
theorem take_hy (l:List Ze) (m:Zg) (s:IS) (z:Int×Ze) (hz0:0≤z.1) (hz:l[z.1.toNat]? = some z.2) (h1:HyA l m s.1) (h2:WOk l s.2.2 s.2.1 0):HyA l m (Jv m s z).1∧WOk l (Jv m s z).2.2 (Jv m s z).2.1 0:=by
 have hs:=HyA_spell l m s h1 h2
 have hnil:∀ fr,WOk l fr [] 0:=fun fr n c h=>by simp at h
 unfold Jv
 dsimp only
 have key:∀ s':IS,HyA l m s'.1→WOk l s'.2.2 s'.2.1 0→(letB z.2 = true→z.1 = s'.2.2+s'.2.1.length)→HyA l m (if letB z.2 = true then (s'.1,s'.2.1++[z.2.Ch],s'.2.2) else (s'.1++V7 m z,s'.2.1,s'.2.2)).1∧WOk l (if letB z.2 = true then (s'.1,s'.2.1++[z.2.Ch],s'.2.2) else (s'.1++V7 m z,s'.2.1,s'.2.2)).2.2 (if letB z.2 = true then (s'.1,s'.2.1++[z.2.Ch],s'.2.2) else (s'.1++V7 m z,s'.2.1,s'.2.2)).2.1 0:=by
  intro s' g1 g2 g3
  split
  ·rename_i hl
   refine ⟨g1,fun n c hc=>?_⟩
   dsimp only at hc ⊢
   rw [List.getElem?_append] at hc
   split at hc
   ·exact g2 n c hc
   ·rename_i hge
    have hn:n = s'.2.1.length:=by
     have:=(List.getElem?_eq_some_iff.1 hc).1
     simp at this; omega
    subst hn
    simp at hc
    subst hc
    have g4:=g3 hl
    unfold letB at hl
    simp only [Bool.and_eq_true] at hl
    refine ⟨hl.2,by omega,z.2,?_,rfl⟩
    have:s'.2.2+0+(s'.2.1.length:Int) = z.1:=by omega
    rw [this]; exact hz
  ·exact ⟨g1.append (HyA_item l m z),g2⟩
 refine key (if letB z.2 = false∨z.1≠s.2.2+s.2.1.length then (Wn m s,[],z.1) else s) ?_ ?_ ?_
 ·split
  ·exact hs
  ·exact h1
 ·split
  ·exact hnil _
  ·exact h2
 ·intro hl
  split
  ·simp
  ·rename_i hc
   by_cases e:z.1 = s.2.2+s.2.1.length
   ·exact e
   ·exact absurd (.inr e) hc
theorem fold_hy (l:List Ze) (m:Zg):∀ (L:List (Int×Ze)) (s:IS),(∀ z∈L,0≤z.1∧l[z.1.toNat]? = some z.2)→HyA l m s.1→WOk l s.2.2 s.2.1 0→HyA l m (Wn m (L.foldl (Jv m) s))
 | [],s,_,h1,h2=>HyA_spell l m s h1 h2
 | z :: L,s,hL,h1,h2=>by
  obtain ⟨g1,g2⟩:=take_hy l m s z (hL z (by simp)).1 (hL z (by simp)).2 h1 h2
  exact fold_hy l m L _ (fun y hy=>hL y (by simp [hy])) g1 g2
theorem Hy_at {l:List Ze} {m:Zg}:∀ (X:List Zh) (p:Option Zh),Hy l m p X→∀ (i:Nat) x,X[i]? = some x→x.Kind = 3→(∃ q,(if i = 0 then p else X[i - 1]?) = some q∧LetI l q)∧(∃ y,X[i+1]? = some y∧LetI l y∧y.Tok = x.Tok)∧x.Width = wAt m 45∧x.Stretch = 0∧x.Shrink = 0
 | [],p,_,i,x,hx,_=>by simp at hx
 | y :: X,p,h,0,x,hx,hk=>by
  cases hx
  obtain ⟨g1,⟨z,g2,g3⟩,g4⟩:=h.1 hk
  refine ⟨g1,⟨z,?_,g3⟩,g4⟩
  cases X with
  | nil=>cases g2
  | cons w X=>exact g2
 | y :: X,p,h,i+1,x,hx,hk=>by
  obtain ⟨g1,g2,g3⟩:=Hy_at X (some y) h.2 i x (by simpa using hx) hk
  refine ⟨?_,by simpa using g2,g3⟩
  obtain ⟨q,hq,hl⟩:=g1
  refine ⟨q,?_,hl⟩
  cases i with
  | zero=>simpa using hq
  | succ i=>simpa using hq
theorem lettered_w {l:List Ze} (hb:∀ x∈l,Byte x.Ch) {y:Zh} (h:LetI l y):styluslaw18_lettered.w l y (fun r'=>r' = true):=by
 obtain ⟨h1,h2,c,h3,h4⟩:=h
 have hl:=(List.getElem?_eq_some_iff.1 h3).1
 unfold styluslaw18_lettered.w
 rw [if_pos h1,if_pos h2,if_pos (by omega)]
 exact ⟨h2,c,h3,Letter_w (hb c (List.mem_of_getElem? h3)) h4⟩
theorem boxes_w (l:List Zh) (hl:l.length≤1000000) (h:∀ x∈l,x.Kind≠1∧x.Kind≠2) {Q:Int→Prop} (hq:Q 0):styluslaw18_boxes.w l Q:=by
 unfold styluslaw18_boxes.w
 refine wfor (fun s=>s.2) (fun n=>(0,(n:Int))) l.length (fun _=>True) (fun _ _=>rfl) rfl trivial ?_ ?_
 ·intro n hn _ K hK
  dsimp only
  rw [if_pos (by omega)]
  obtain ⟨g1,g2⟩:=h _ (List.getElem_mem hn)
  refine Zca (P:=fun z=>z = 0) (fun M hM=>?_) ?_
  ·refine Zca (P:=fun b=>b = false) (fun M2 hM2=>?_) ?_
   ·refine ⟨by omega,l[n],W7 l hn,?_⟩
    rw [if_neg g1,decide_eq_false g2]; exact hM2 _ rfl
   ·rintro _ rfl
    rw [if_neg (by simp)]; exact hM _ rfl
  ·rintro _ rfl
   refine ⟨V8 (by omega) (by omega),?_⟩
   have:=hK trivial
   simpa using this
 ·intro _ K
  dsimp only
  rw [if_neg (by omega)]; exact hq
theorem glues_w (l:List Ze) (m:Zg) (hb:∀ x∈l,Byte x.Ch) (hm:m.Widths.length = 128) (hA:∀ {Q:Bool→Prop},Q true→Yh.w Q):styluslaw18_ItemsGlues.w l m (fun r=>r = true):=by
 unfold styluslaw18_ItemsGlues.w
 refine ⟨hm,vast_w l m hm (by rw [if_pos rfl]; exact hA rfl) fun hl hM=>?_⟩
 rw [if_neg (by simp)]
 refine Flows_w l (by omega) ?_
 unfold flowsP
 by_cases ct:(treeP l).2 = 0
 ·rw [if_pos ct]
  dsimp only
  rw [if_pos rfl]
  obtain ⟨F,hF⟩:=tree_ok ct
  have hfl:=flows_eq F 0 hF.k
  rw [hF.t] at hfl
  rw [hfl]
  have hflow:∀ z∈Ko 0 F,FlowOk l m z.1 z.2 (Wn m ((inn (z.1+1) z.2).foldl (Jv m) ([],[],0)))∧GL m (nh (Wn m ((inn (z.1+1) z.2).foldl (Jv m) ([],[],0)))) 2 false∧Hy l m none (Wn m ((inn (z.1+1) z.2).foldl (Jv m) ([],[],0))):=by
   intro z hz
   obtain ⟨A,o,c,B,g1,g2,g3,g4,g5⟩:=V0a F 0 hz hF.k
   rw [hF.t] at g1
   refine ⟨flow_ok hF m hz,?_,?_⟩
   ·rw [nh_items]
    refine glues m _ 0 2 false ?_ (fun _=>.inl rfl) (fun _=>rfl)
    rw [inn_chars z.2 _ g4]
    exact chars_ok hF hb hz
   ·refine fold_hy l m _ ([],[],0) (fun y hy=>?_) (fun p=>trivial) (fun n c h=>by simp at h) none
    obtain ⟨q1,q2⟩:=inn_get z.2 _ _ _ (show (y.1,y.2)∈_ from hy)
    have hi:y.1.toNat = A.length+1+(y.1 - (z.1+1)).toNat:=by omega
    have hl2:=(List.getElem?_eq_some_iff.1 q2).1
    refine ⟨by omega,?_⟩
    rw [g1,hi,List.getElem?_append_right (by omega)]
    have e3:A.length+1+(y.1 - (z.1+1)).toNat - A.length = (y.1 - (z.1+1)).toNat+1:=by omega
    rw [e3,List.getElem?_cons_succ,List.getElem?_append_left hl2]; exact q2
  have hLl:(Ko 0 F).length≤250:=by
   have h1:=V1a l 0
   rw [hfl,List.length_map] at h1; omega
  generalize Ko 0 F = L at hflow hLl
  refine Zib (fun s=>∃ j:Nat,s = (j:Int)∧j≤L.length) (fun s=>(L.length - s).toNat) ⟨0,rfl,Nat.zero_le _⟩ ?_
  rintro _ ⟨j,rfl,hj⟩ K hK
  try dsimp only
  by_cases hjl:j < L.length
  ·rw [if_pos (by simp; omega)]
   have hget:(L.map (·.1))[(j:Int).toNat]? = some L[j].1:=by rw [Int.toNat_natCast,List.getElem?_map,List.getElem?_eq_getElem hjl]; rfl
   obtain ⟨hfo,hgl,hhy⟩:=hflow L[j] (List.getElem_mem hjl)
   generalize L[j] = z at hfo hget hgl hhy
   obtain ⟨p,k⟩:=z
   try dsimp only at hfo
   try dsimp only at hget
   try dsimp only at hgl
   try dsimp only at hhy
   generalize Wn m ((inn (p+1) k).foldl (Jv m) ([],[],0)) = all at hfo hgl hhy
   have hof:ofP l m p = if V8a m = 0 then (all,0) else ([],V8a m):=by
    unfold ofP
    rw [if_pos ct]
    have:=hfo.r
    rw [if_neg (show ¬ (p < 0∨(l.length:Int)≤p) by omega),hfo.b,if_pos rfl,hfo.i]
   have hal:=hfo.a
   refine Zca (P:=fun _=>True) (fun M hMz=>?_) ?_
   ·refine ⟨by omega,p,hget,ofP l m p,Of_w l (by omega) hb m hM p rfl,?_⟩
    rw [hof]
    rcases checkM_two m with cm | cm
    ·rw [if_pos cm]
     dsimp only
     rw [if_pos rfl]
     refine Zib (fun s=>∃ (w:Int) (any:Bool) (i:Nat),s = (w,(i:Int))∧i≤all.length∧GL m (nh (all.drop i)) w any∧(any = false→∀ x∈all.take i,x.Kind≠1∧x.Kind≠2)) (fun s=>(all.length - s.2).toNat) ⟨2,false,0,rfl,Nat.zero_le _,by simpa using hgl,by simp⟩ ?_
     rintro _ ⟨w,any,i,rfl,hi,hg,ha⟩ N hN
     dsimp only
     by_cases hil:i < all.length
     ·rw [if_pos (by omega)]
      have etk:all.take (i+1) = all.take i++[all[i]]:=by rw [List.take_add_one,List.getElem?_eq_getElem hil]; rfl
      have hgx:=W7 all hil
      have hgx2:all[i]? = some all[i]:=List.getElem?_eq_getElem hil
      have hhy2:=Hy_at all none hhy i all[i] hgx2
      rw [List.drop_eq_getElem_cons hil] at hg
      generalize all[i] = x at etk hgx hgx2 hhy2 hg
      refine Zca (P:=fun w'=>∃ any',GL m (nh (all.drop (i+1))) w' any'∧(any' = false→∀ x∈all.take (i+1),x.Kind≠1∧x.Kind≠2)) (fun M2 hM2=>?_) ?_
      ·refine ⟨by omega,x,hgx,?_⟩
       have keep:x.Kind≠1∧x.Kind≠2→(any = false→∀ y∈all.take (i+1),y.Kind≠1∧y.Kind≠2):=by
        intro hx h y hy
        rw [etk] at hy
        rcases List.mem_append.1 hy with hy | hy
        ·exact ha h y hy
        ·simp at hy; rw [hy]; exact hx
       refine Zca (P:=fun _=>x.Kind≠4∧x.Kind≠3∧(x.Kind = 2→w≠2)) (fun M3 hM3=>?_) ?_
       ·by_cases k4:x.Kind = 4
        ·rw [if_pos k4]
         refine hM2 _ ⟨any,?_,keep (by omega)⟩
         have:nh (x :: all.drop (i+1)) = x :: nh (all.drop (i+1)):=by unfold nh; rw [List.filter_cons_of_pos (by simp [k4])]
         rw [this] at hg
         unfold GL at hg
         rw [if_pos k4] at hg; exact hg
        rw [if_neg k4]
        by_cases k3:x.Kind = 3
        ·rw [if_pos k3]
         obtain ⟨⟨q,q1,q2⟩,⟨y,y1,y2,y3⟩,q3,q4,q5⟩:=hhy2 k3
         have hi0:i≠0:=by rintro rfl; simp at q1
         rw [if_neg hi0] at q1
         have hy1:=(List.getElem?_eq_some_iff.1 y1).1
         rw [if_neg (by omega)]
         refine ⟨by constructor <;> omega,?_⟩
         rw [if_neg (by omega)]
         have e1:((i:Int) - 1).toNat = i - 1:=by omega
         have e2:((i:Int)+1).toNat = i+1:=by omega
         refine ⟨by constructor <;> omega,by omega,q,by rw [e1]; exact q1,true,lettered_w hb q2,?_⟩
         rw [if_neg (by simp)]
         refine ⟨by constructor <;> omega,by omega,y,by rw [e2]; exact y1,true,lettered_w hb y2,?_⟩
         rw [if_neg (by simp)]
         refine ⟨by constructor <;> omega,?_⟩
         rw [if_pos y3]
         refine ⟨_,X0a hm (by omega),?_⟩
         rw [if_pos q3,if_pos q4,if_pos q5]
         refine hM2 _ ⟨any,?_,keep (by omega)⟩
         have:nh (x :: all.drop (i+1)) = nh (all.drop (i+1)):=by unfold nh; rw [List.filter_cons_of_neg (by simp [k3])]
         rw [this] at hg; exact hg
        rw [if_neg k3]
        have:nh (x :: all.drop (i+1)) = x :: nh (all.drop (i+1)):=by unfold nh; rw [List.filter_cons_of_pos (by simp [k3])]
        rw [this] at hg
        unfold GL at hg
        rw [if_neg k4] at hg
        by_cases k2:x.Kind = 2
        ·rw [if_pos k2]
         obtain ⟨g1,g2,g3⟩:=hg.1 k2
         rw [if_neg g1,if_pos g2,if_pos g3]
         exact hM3 () ⟨k4,k3,fun _=>g1⟩
        ·rw [if_neg k2]; exact hM3 () ⟨k4,k3,fun q=>absurd q k2⟩
       ·rintro _ ⟨k4,k3,k2⟩
        refine hM2 _ ⟨true,?_,by simp⟩
        have:nh (x :: all.drop (i+1)) = x :: nh (all.drop (i+1)):=by unfold nh; rw [List.filter_cons_of_pos (by simp [k3])]
        rw [this] at hg
        unfold GL at hg
        rw [if_neg k4] at hg
        exact hg.2
      ·rintro w' ⟨any',h1,h2⟩
       refine ⟨by constructor <;> omega,hN _ ⟨w',any',i+1,by simp,hil,h1,h2⟩ (by simp; omega)⟩
     ·rw [if_neg (by omega)]
      have:i = all.length:=by omega
      subst this
      rw [List.drop_length] at hg
      rw [List.take_length] at ha
      by_cases c2:w = 2
      ·rw [if_pos c2]
       have hz:any = false:=hg c2
       refine boxes_w all (by omega) (ha hz) ?_
       rw [if_neg (by omega)]
       exact hMz () trivial
      ·rw [if_neg c2]; exact hMz () trivial
    ·rw [if_neg (show ¬ V8a m = 0 by omega)]
     dsimp only
     rw [cm,if_neg (by omega)]
     exact hA rfl
   ·rintro _ _
    exact ⟨by constructor <;> omega,hK _ ⟨j+1,by simp,hjl⟩ (by omega)⟩
  ·rw [if_neg (by simp; omega)]
   exact hA rfl
 ·rw [if_neg ct]
  dsimp only
  rw [if_neg ct]
  exact hA rfl
end Go.Proofs.YtpkhmfedaaoalaaGreatDoor
