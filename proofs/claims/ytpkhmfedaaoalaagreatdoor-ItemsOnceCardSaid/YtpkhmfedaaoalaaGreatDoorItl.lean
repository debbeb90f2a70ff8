/- A part of the proof that Iol's row holds (made smaller by a program: its texts stand in wip/tpl). -/
import Derived.Test.YtpkhmfedaaoalaaGreatDoorItk
set_option linter.unusedSimpArgs false
set_option linter.unusedVariables false
set_option linter.unusedSectionVars false
namespace Go.Proofs.YtpkhmfedaaoalaaGreatDoor
open Go Go.Proofs.YtpkhmfedaaoalaaGreatDoor.AM Fo
set_option linter.unusedVariables false
set_option linter.unusedSimpArgs false
theorem vast_w (l:List Ze) (m:Zg) (hm:m.Widths.length = 128) {Q:Bool→Prop} (h1:Q true) (h2:l.length≤250→MetOk m→Q false):X3.w l m Q:=by
 unfold X3.w
 refine ⟨hm,?_⟩
 by_cases c1:250 < (l.length:Int)
 ·rw [if_pos c1]; exact h1
 rw [if_neg c1]
 by_cases c2:30 < (m.Pats.length:Int)
 ·rw [if_pos c2]; exact h1
 rw [if_neg c2]
 refine wfor (fun i=>i) (fun n=>(n:Int)) m.Pats.length (fun n=>∀ p∈m.Pats.take n,p.Letters.size≤1000∧p.Figures.size≤1000) (fun _ _=>rfl) rfl (by simp) ?_ ?_
 ·intro n hn hp K hK
  try dsimp only
  rw [if_pos (by omega)]
  refine ⟨by omega,m.Pats[n],W7 _ hn,?_⟩
  by_cases c3:40 < (m.Pats[n].Letters.size:Int)
  ·rw [if_pos c3]; exact h1
  rw [if_neg c3]
  by_cases c4:40 < (m.Pats[n].Figures.size:Int)
  ·rw [if_pos c4]; exact h1
  rw [if_neg c4]
  refine ⟨V8 (by omega) (by omega),?_⟩
  have:=hK (fun p hp2=>by
   rw [List.take_add_one,List.getElem?_eq_getElem hn] at hp2
   rcases List.mem_append.1 hp2 with hp2 | hp2
   ·exact hp p hp2
   ·simp at hp2; subst hp2; omega)
  simpa using this
 ·intro hp K
  try dsimp only
  rw [if_neg (by omega)]
  rw [List.take_length] at hp
  exact h2 (by omega) ⟨hm,by omega,hp⟩
theorem checkM_two (m:Zg):V8a m = 0∨V8a m = 7:=by unfold V8a; split; exact .inl rfl; exact .inr rfl
def shB (x:Ze):Bool:=decide (x.Kind = 1) || (decide (x.Kind = 2) && decide (x.Ch = 110))
def Jb:List Ze→Int→List Int
 | [],_=>[]
 | x :: l,i=>(if shB x then [i] else [])++Jb l (i+1)
theorem Jj:∀ (a b:List Ze) (i:Int),Jb (a++b) i = Jb a i++Jb b (i+a.length)
 | [],b,i=>by simp [Jb]
 | x :: a,b,i=>by
  simp only [List.cons_append,Jb,List.append_assoc,Jj a b,List.length_cons]
  congr 3
  simp; omega
theorem Ykb:∀ (F:Fo) (b:Int),ok F→Wva b F = Jb (toks F) b
 | nil,b,_=>rfl
 | text x cs r,b,hk=>by
  have key:∀ (cs:List Ze) (b:Int),(∀ y∈cs,y.Kind = 1)→Jb cs b = posL b cs.length:=by
   intro cs
   induction cs with
   | nil=>intros; rfl
   | cons y cs ih=>
    intro b hy
    have h1:=hy y (by simp)
    unfold Jb
    rw [if_pos (by simp [shB,h1]),ih _ (fun z hz=>hy z (by simp [hz]))]; rfl
  have e:toks (text x cs r) = (x :: cs)++toks r:=by simp [toks]
  rw [e,Jj,key (x :: cs) b (fun y hy=>by rcases List.mem_cons.1 hy with rfl | hy; exact hk.1; exact hk.2.1 y hy),Wva,Ykb r _ hk.2.2.2]
  rfl
 | node o k c r,b,hk=>by
  obtain ⟨h1,h2,h3,h4,h5⟩:=hk
  have e:toks (node o k c r) = [o]++(toks k++([c]++toks r)):=by simp [toks]
  rw [e,Jj,Jj,Jj,Wva,Ykb k _ h4,Ykb r _ h5]
  have ec:Jb [c] (b+([o]:List Ze).length+(toks k).length) = []:=by simp [Jb,shB,h2]
  rw [ec,List.nil_append]
  have eo:Jb [o] b = if o.Ch = 110 then [b] else []:=by
   simp only [Jb,shB,h1,List.append_nil]
   by_cases c:o.Ch = 110 <;> simp [c]
  rw [eo]
  have e3:b+([o]:List Ze).length+(toks k).length+([c]:List Ze).length = b+2+tl k:=by rw [tl_len]; simp; omega
  rw [e3]; rfl
theorem shown_count:∀ (l:List Ze) (i:Int) (n:Nat),(Jb l i).count (i+n) = if (l[n]?.map shB) = some true then 1 else 0
 | [],i,n=>by simp [Jb]
 | x :: l,i,0=>by
  have h0:(Jb l (i+1)).count (i+((0:Nat):Int)) = 0:=by
   rw [List.count_eq_zero]
   have:∀ (l:List Ze) (j q:Int),q∈Jb l j→j≤q:=by
    intro l
    induction l with
    | nil=>intro j q h; cases h
    | cons y l ih=>
     intro j q h
     unfold Jb at h
     rcases List.mem_append.1 h with h | h
     ·split at h
      ·simp at h; omega
      ·cases h
     ·have:=ih _ _ h; omega
   intro hm
   have:=this _ _ _ hm; omega
  unfold Jb
  rw [List.count_append,h0]
  cases e:shB x <;> simp [e]
 | x :: l,i,n+1=>by
  have h1:=shown_count l (i+1) n
  have e:i+((n+1:Nat):Int) = i+1+n:=by omega
  unfold Jb
  rw [List.count_append,e,h1]
  have h0:(if shB x = true then [i] else []).count (i+1+n) = 0:=by
   rw [List.count_eq_zero]
   intro hm
   split at hm
   ·simp at hm; omega
   ·cases hm
  rw [h0,Nat.zero_add]
  simp
theorem item_cases {m:Zg} {t:Int} {c:Ze} {x:Zh} (h:x∈V7 m (t,c)):x.Tok = t∧((c.Kind = 1∧c.Ch = 32∧x.Kind = 2∧x.Width = wAt m 32∧x.Stretch = m.Stretch∧x.Shrink = m.Shrink)∨(c.Kind = 1∧c.Ch≠32∧x.Kind = 1∧x.Width = wAt m c.Ch.toNat)∨(c.Kind = 2∧c.Ch = 110∧x.Kind = 4)):=by
 unfold V7 at h
 dsimp only at h
 split at h
 ·rename_i e; simp at h; subst h; exact ⟨rfl,.inl ⟨e.1,e.2,rfl,rfl,rfl,rfl⟩⟩
 ·rename_i e
  split at h
  ·rename_i e2; simp at h; subst h; exact ⟨rfl,.inr (.inl ⟨e2,fun q=>e ⟨e2,q⟩,rfl,rfl⟩)⟩
  ·split at h
   ·rename_i e3; simp at h; subst h; exact ⟨rfl,.inr (.inr ⟨e3.1,e3.2,rfl⟩)⟩
   ·cases h
structure FlowOk (l:List Ze) (m:Zg) (p:Int) (k:Fo) (all:List Zh):Prop where
 r:0≤p∧p < l.length
 b:begB (l.getD p.toNat tok0) = true
 i:itemsP m l p.toNat = all
 n:(nh all).map (·.Tok) = innS (p+1) k
 s:p+1+tl k≤l.length
 h:HT all
 a:all.length≤2 * l.length
 e:∀ x∈nh all,∃ c,0≤x.Tok∧l[x.Tok.toNat]? = some c∧x∈V7 m (x.Tok,c)
theorem take_mu (m:Zg) (s:IS) (z:Int×Ze):(Jv m s z).1.length+2 * (Jv m s z).2.1.length≤s.1.length+2 * s.2.1.length+2:=by
 have hs:=Yib m s
 have hi:(V7 m z).length≤1:=by unfold V7; split <;> (try split) <;> (try split) <;> simp
 unfold Jv
 dsimp only
 split <;> split <;> simp <;> omega
theorem fold_mu (m:Zg):∀ (L:List (Int×Ze)) (s:IS),(L.foldl (Jv m) s).1.length+2 * (L.foldl (Jv m) s).2.1.length≤s.1.length+2 * s.2.1.length+2 * L.length
 | [],s=>by simp
 | z :: L,s=>by have:=fold_mu m L (Jv m s z); have:=take_mu m s z; simp only [List.foldl_cons,List.length_cons]; omega
theorem enum_len:∀ (l:List Ze) (i:Int),(enum l i).length = l.length
 | [],_=>rfl
 | x :: l,i=>by simp [enum,enum_len l]
theorem inn_len:∀ (F:Fo) (b:Int),((inn b F).length:Int)≤tl F
 | nil,_=>Int.le_refl _
 | text x cs r,b=>by
  have h1:=inn_len r (b+(cs.length+1:Nat))
  rw [inn,tl_text,List.length_append,enum_len,List.length_cons]; omega
 | node o k c r,b=>by
  have h1:=inn_len r (b+2+tl k)
  have h2:=inn_len k (b+1)
  have h3:=tl_nn k
  rw [inn,tl_node,List.length_append]
  split
  ·simp; omega
  ·split <;> simp <;> omega
theorem flow_ok {l:List Ze} {F:Fo} (hF:TreeOk l F) (m:Zg) {p:Int} {k:Fo} (h:(p,k)∈Ko 0 F):FlowOk l m p k (Wn m ((inn (p+1) k).foldl (Jv m) ([],[],0))):=by
 obtain ⟨h1,h2,h3,h4⟩:=itemsP_inn (m:=m) hF.t hF.k h
 obtain ⟨A,o,c,B,g1,g2,g3,g4,g5⟩:=V0a F 0 h hF.k
 rw [hF.t] at g1
 have hp:p = (A.length:Int):=by omega
 have hlen:l.length = A.length+1+(toks k).length+1+B.length:=by rw [g1]; simp; omega
 refine ⟨⟨h1,h2⟩,h3,h4,by rw [nh_items]; exact innS_eq m k _ g4,?_,HT_fold m _ _ (fun x hx=>by cases hx),?_,?_⟩
 ·have hlen:l.length = A.length+1+(toks k).length+1+B.length:=by rw [g1]; simp; omega
  have:=tl_len k; omega
 ·have a1:=Yib m ((inn (p+1) k).foldl (Jv m) ([],[],0))
  have a2:=fold_mu m (inn (p+1) k) ([],[],0)
  have a3:=inn_len k (p+1)
  have a4:=tl_len k
  simp only [List.length_nil] at a2
  omega
 ·intro x hx
  rw [nh_items] at hx
  obtain ⟨z,hz,hx⟩:=List.mem_flatMap.1 hx
  obtain ⟨t,c'⟩:=z
  obtain ⟨e1,_⟩:=item_cases hx
  obtain ⟨q1,q2⟩:=inn_get k _ _ _ hz
  subst e1
  refine ⟨c',by omega,?_,hx⟩
  have hi:x.Tok.toNat = A.length+1+(x.Tok - (p+1)).toNat:=by omega
  have hl2:=(List.getElem?_eq_some_iff.1 q2).1
  rw [g1,hi,List.getElem?_append_right (by omega)]
  have e3:A.length+1+(x.Tok - (p+1)).toNat - A.length = (x.Tok - (p+1)).toNat+1:=by omega
  rw [e3,List.getElem?_cons_succ,List.getElem?_append_left hl2]; exact q2
theorem count_prefix {a b:List Int} (h:a <+: b) (q:Int):a.count q≤b.count q:=h.sublist.count_le q
theorem nh_prefix (all:List Zh) (n:Nat):(nh (all.take n)).map (·.Tok) <+: (nh all).map (·.Tok):=by
 have:all = all.take n++all.drop n:=(List.take_append_drop n all).symm
 refine ⟨(nh (all.drop n)).map (·.Tok),?_⟩
 rw [← List.map_append,← Vm,List.take_append_drop]
theorem allS_take {L:List (Int×Fo)} {j:Nat} (h:j < L.length):allS (L.take (j+1)) = allS (L.take j)++innS (L[j].1+1) L[j].2:=by
 rw [List.take_add_one,List.getElem?_eq_getElem h,Wka]
 simp [allS]
theorem allS_prefix (L:List (Int×Fo)) (j:Nat):allS (L.take j) <+: allS L:=⟨allS (L.drop j),by rw [← Wka,List.take_append_drop]⟩
theorem once_w (l:List Ze) (m:Zg) (hb:∀ x∈l,Byte x.Ch) (hm:m.Widths.length = 128) (hA:∀ {Q:Bool→Prop},Q true→Yh.w Q):Xd.w l m (fun r=>r = true):=by
 unfold Xd.w
 refine ⟨hm,vast_w l m hm (by rw [if_pos rfl]; exact hA rfl) fun hl hM=>?_⟩
 rw [if_neg (by simp)]
 refine Flows_w l (by omega) ?_
 unfold flowsP
 by_cases ct:(treeP l).2 = 0
 ·rw [if_pos ct]
  dsimp only
  rw [if_pos rfl]
  refine ⟨⟨by omega,by omega,by omega⟩,?_⟩
  obtain ⟨F,hF⟩:=tree_ok ct
  have hfl:=flows_eq F 0 hF.k
  rw [hF.t] at hfl
  rw [hfl]
  have hflow:∀ z∈Ko 0 F,FlowOk l m z.1 z.2 (Wn m ((inn (z.1+1) z.2).foldl (Jv m) ([],[],0))):=fun z hz=>flow_ok hF m hz
  have hone:∀ n:Nat,(allS (Ko 0 F)).count (n:Int) = if (l[n]?.map shB) = some true then 1 else 0:=by
   intro n
   have h1:=(K2a F 0 0 (n:Int) hF.w).2 (by decide)
   rw [h1,Ykb F 0 hF.k,hF.t]
   have:=shown_count l 0 n
   rw [Int.zero_add] at this; exact this
  have hle1:∀ n:Nat,(allS (Ko 0 F)).count (n:Int)≤1:=by intro n; rw [hone]; split <;> omega
  have hLl:(Ko 0 F).length≤250:=by
   have h1:=V1a l 0
   rw [hfl,List.length_map] at h1; omega
  generalize Ko 0 F = L at hflow hone hle1 hLl
  have hmap:∀ j (h:j < L.length),(L.map (·.1))[j]'(by simpa using h) = L[j].1:=fun j h=>by simp
  refine Zib (fun s=>∃ (S:List Int) (j:Nat),s = (S,(j:Int))∧j≤L.length∧S.length = l.length∧∀ q:Nat,q < l.length→S[q]? = some (((allS (L.take j)).count (q:Int):Nat):Int)) (fun s=>(L.length - s.2).toNat)
   ⟨_,0,rfl,Nat.zero_le _,by simp,fun q hq=>by simp [hq,allS]⟩ ?_
  rintro _ ⟨S,j,rfl,hj,hS,hc⟩ K hK
  dsimp only
  by_cases hjl:j < L.length
  ·rw [if_pos (by simp; omega)]
   have hget:(L.map (·.1))[(j:Int).toNat]? = some L[j].1:=by rw [Int.toNat_natCast,List.getElem?_map,List.getElem?_eq_getElem hjl]; rfl
   have hfo:=hflow L[j] (List.getElem_mem hjl)
   have eall:=allS_take hjl
   have hpre:=allS_prefix L (j+1)
   rw [eall] at hpre
   clear hmap
   generalize L[j] = z at hfo hget eall hpre
   obtain ⟨p,k⟩:=z
   try dsimp only at hfo
   try dsimp only at hget
   try dsimp only at eall
   try dsimp only at hpre
   generalize Wn m ((inn (p+1) k).foldl (Jv m) ([],[],0)) = all at hfo
   have hof:ofP l m p = if V8a m = 0 then (all,0) else ([],V8a m):=by
    unfold ofP
    rw [if_pos ct]
    have:=hfo.r
    rw [if_neg (show ¬ (p < 0∨(l.length:Int)≤p) by omega),hfo.b,if_pos rfl,hfo.i]
   refine ⟨by omega,p,hget,ofP l m p,Of_w l (by omega) hb m hM p rfl,?_⟩
   rw [hof]
   rcases checkM_two m with cm | cm
   ·rw [if_pos cm]
    dsimp only
    rw [if_pos rfl]
    refine Zib (fun s=>∃ (S':List Int) (i:Nat),s = (S',((nh (all.take i)).map (·.Tok)).getLast?.getD p,(i:Int))∧i≤all.length∧S'.length = l.length∧∀ q:Nat,q < l.length→S'[q]? = some (((allS (L.take j)).count (q:Int)+((nh (all.take i)).map (·.Tok)).count (q:Int):Nat):Int)) (fun s=>(all.length - s.2.2).toNat)
     ⟨S,0,by simp [nh],Nat.zero_le _,hS,fun q hq=>by simpa [nh] using hc q hq⟩ ?_
    rintro _ ⟨S',i,rfl,hi,hS',hc'⟩ N hN
    dsimp only
    have hipre:=nh_prefix all (i+1)
    rw [hfo.n] at hipre
    by_cases hil:i < all.length
    ·rw [if_pos (by omega)]
     have etk:all.take (i+1) = all.take i++[all[i]]:=by rw [List.take_add_one,List.getElem?_eq_getElem hil]; rfl
     have hxm:=List.getElem_mem hil
     have hgx:=W7 all hil
     generalize all[i] = x at etk hxm hgx
     rw [etk,Vm,List.map_append] at hipre
     obtain ⟨y,hy,hyt⟩:=hfo.h x hxm
     have hyin:y.Tok∈innS (p+1) k:=by rw [← hfo.n]; exact List.mem_map.2 ⟨y,hy,rfl⟩
     rw [hyt] at hyin
     have hrange:=Waa k _ _ hyin
     have hs:=hfo.s
     have hp0:=hfo.r
     have hal:=hfo.a
     refine Zca (P:=fun z=>∃ S'':List Int,z = (S'',((nh (all.take (i+1))).map (·.Tok)).getLast?.getD p)∧S''.length = l.length∧∀ q:Nat,q < l.length→S''[q]? = some (((allS (L.take j)).count (q:Int)+((nh (all.take (i+1))).map (·.Tok)).count (q:Int):Nat):Int)) (fun M hMz=>?_) ?_
     ·refine ⟨by omega,x,hgx,?_⟩
      rw [if_neg (by omega),if_neg (by omega)]
      by_cases k3:x.Kind = 3
      ·rw [if_pos k3]
       have e0:nh [x] = []:=by simp [nh,k3]
       refine hMz _ ⟨S',?_,hS',?_⟩
       ·rw [etk,Vm,e0,List.append_nil]
       ·rw [etk,Vm,e0,List.append_nil]; exact hc'
      ·rw [if_neg k3]
       have e0:nh [x] = [x]:=by simp [nh,k3]
       rw [e0] at hipre
       have hxn:x∈nh all:=by simp [nh,hxm,k3]
       obtain ⟨c,t0,t1,t2⟩:=hfo.e x hxn
       obtain ⟨_,hcs⟩:=item_cases t2
       have hsort:(((nh (all.take i)).map (·.Tok))++[x.Tok]).Pairwise (· < ·):=(X9a k (p+1)).sublist hipre.sublist
       have hlast:((nh (all.take i)).map (·.Tok)).getLast?.getD p < x.Tok:=by
        cases e:((nh (all.take i)).map (·.Tok)).getLast? with
        | none=>simp; omega
        | some z=>
         have hz:=List.mem_of_getLast? e
         have:=(List.pairwise_append.1 hsort).2.2 z hz x.Tok (by simp)
         simpa using this
       have hcb:=hb c (List.mem_of_getElem? t1)
       refine ⟨t0,c,t1,?_⟩
       refine Zca (P:=fun _=>True) (fun M2 hM2=>?_) ?_
       ·rw [if_neg (by omega)]
        rcases hcs with ⟨g1,g2,g3,g4,_⟩ | ⟨g1,g2,g3,g4⟩ | ⟨g1,g2,g3⟩
        ·rw [if_pos g1,if_neg (by simp [g2,g3]),if_neg (by omega),if_neg (by simp [g3]),if_pos (by omega)]
         refine ⟨hcb.1,by omega,_,X0a hm (by omega),?_⟩
         rw [g2,if_pos (by rw [g4]; rfl)]; exact hM2 () trivial
        ·rw [if_pos g1,if_neg (by simp [g2,g3]),if_neg (by omega),if_neg (by simp [g3])]
         by_cases c128:c.Ch < 128
         ·rw [if_pos c128]
          refine ⟨hcb.1,by omega,_,X0a hm (by omega),?_⟩
          rw [if_pos g4]; exact hM2 () trivial
         ·rw [if_neg c128]; exact hM2 () trivial
        ·rw [if_neg (by omega),if_neg (by simp [g3]),if_pos g1,if_neg (by simp [g2,g3])]; exact hM2 () trivial
       ·rintro _ _
        have hq:x.Tok.toNat < l.length:=by omega
        have hv:=hc' x.Tok.toNat hq
        have htn:((x.Tok.toNat:Nat):Int) = x.Tok:=Int.toNat_of_nonneg t0
        have hcle:(allS (L.take j)).count x.Tok+((nh (all.take i)).map (·.Tok)).count x.Tok≤1:=by
         have h1:=count_prefix hpre x.Tok
         have h2:=count_prefix hipre x.Tok
         rw [List.count_append] at h1 h2
         have h3:=hle1 x.Tok.toNat
         rw [htn] at h3
         omega
        rw [htn] at hv
        refine ⟨_,hv,by constructor <;> omega,?_⟩
        obtain ⟨V,hV⟩:∃ V:Int,V = (((allS (L.take j)).count x.Tok+((nh (all.take i)).map (·.Tok)).count x.Tok:Nat):Int)+1:=⟨_,rfl⟩
        rw [← hV]
        refine hMz (S'.set x.Tok.toNat V,x.Tok) ⟨S'.set x.Tok.toNat V,?_,(by rw [List.length_set]; exact hS'),fun q hq2=>?_⟩
        ·rw [etk,Vm,e0,List.map_append]; simp only [List.map_cons,List.map_nil,List.getLast?_concat,Option.getD_some]
        ·rw [etk,Vm,e0,List.map_append,List.count_append,List.getElem?_set]
         by_cases eq:x.Tok.toNat = q
         ·subst eq
          rw [if_pos rfl,if_pos (by rw [hS']; exact hq),htn]
          rw [hV]; simp; omega
         ·rw [if_neg eq,hc' q hq2]
          have:([x].map (·.Tok)).count (q:Int) = 0:=by
           rw [List.count_eq_zero]; simp; omega
          rw [this,Nat.add_zero]
     ·rintro _ ⟨S'',rfl,h1,h2⟩
      dsimp only
      refine ⟨by constructor <;> omega,hN _ ⟨S'',i+1,by simp,hil,h1,h2⟩ (by simp; omega)⟩
    ·rw [if_neg (by omega)]
     have:i = all.length:=by omega
     subst this
     rw [List.take_length] at hc'
     refine ⟨by constructor <;> omega,hK _ ⟨S',j+1,by simp,hjl,hS',fun q hq=>?_⟩ (by simp; omega)⟩
     rw [hc' q hq,eall,List.count_append,hfo.n]
   ·rw [if_neg (show ¬ V8a m = 0 by omega)]
    dsimp only
    rw [cm,if_neg (by omega),if_pos rfl]
    exact hA rfl
  ·rw [if_neg (by simp; omega)]
   have hjj:L.take j = L:=List.take_of_length_le (by omega)
   rw [hjj] at hc
   refine wfor (fun s=>s.2) (fun n=>(S,(n:Int))) l.length (fun _=>True) (fun _ _=>rfl) rfl trivial ?_ ?_
   ·intro n hn _ N hN
    dsimp only
    rw [if_pos (by omega)]
    have hv:=hc n hn
    rw [hone n,List.getElem?_eq_getElem hn] at hv
    refine Zca (P:=fun b=>b = shB l[n]) (fun M hMz=>?_) ?_
    ·refine ⟨by omega,l[n],W7 l hn,?_⟩
     by_cases k1:l[n].Kind = 1
     ·rw [if_pos k1]; exact hMz _ (by simp [shB,k1])
     ·rw [if_neg k1]
      by_cases k2:l[n].Kind = 2
      ·rw [if_pos k2]; exact hMz _ (by simp [shB,k2])
      ·rw [if_neg k2]; exact hMz _ (by simp [shB,k1,k2])
    ·rintro _ rfl
     refine ⟨by omega,_,by rw [Int.toNat_natCast]; exact hv,?_⟩
     have hN2:=hN trivial
     cases e:shB l[n] with
     | true=>
      simp only [Option.map_some,e,if_true]
      rw [if_neg (by simp),if_neg (by simp)]
      refine ⟨by constructor <;> omega,?_⟩
      simpa using hN2
     | false=>
      simp only [Option.map_some,e]
      rw [if_neg (by simp),if_neg (by simp)]
      refine ⟨by constructor <;> omega,?_⟩
      simpa using hN2
   ·intro _ N
    dsimp only
    rw [if_neg (by omega)]
    exact hA rfl
 ·rw [if_neg ct]
  dsimp only
  rw [if_neg ct,if_pos (by simp)]
  exact hA rfl
end Go.Proofs.YtpkhmfedaaoalaaGreatDoor
