/- ItemsGlues: a part of its proof (packed by a program). -/
import Derived.Test.YtpkhmfedaaoalaaGreatDoorItj
set_option linter.all false
namespace Go.Proofs.YtpkhmfedaaoalaaGreatDoor
open Go Go.Proofs.YtpkhmfedaaoalaaGreatDoor.AM Fo
def enum:List Ze→Int→List (Int×Ze)
 | [],_=>[]
 | x :: l,i=>(i,x) :: enum l (i+1)
def tl (F:Fo):Int:=((toks F).length:Int)
theorem tl_nil:tl nil = 0:=rfl
theorem tl_text (x:Ze) (cs:List Ze) (r:Fo):tl (text x cs r) = (cs.length:Int)+1+tl r:=by unfold tl; simp [toks]; omega
theorem tl_node (o c:Ze) (k r:Fo):tl (node o k c r) = 2+tl k+tl r:=by unfold tl; simp [toks]; omega
theorem tl_nn (F:Fo):0≤tl F:=by unfold tl; omega
theorem tl_len (F:Fo):((toks F).length:Int) = tl F:=rfl
def inn:Int→Fo→List (Int×Ze)
 | _,nil=>[]
 | b,text x cs r=>enum (x :: cs) b++inn (b+(cs.length+1:Nat)) r
 | b,node o k c r=>(if o.Ch = 110 then [(b,o)] else if o.Ch = 108 then [] else (b,o) :: (inn (b+1) k++[(b+1+tl k,c)]))++inn (b+2+tl k) r
theorem Ypb:∀ (F:Fo) (rest:List Ze) (d a b:Int),ok F→1≤d→0 < a→ownL (toks F++rest) d a b = ownL rest d a (b+tl F)
 | nil,rest,d,a,b,_,_,_=>by simp [toks,tl_nil]
 | text x cs r,rest,d,a,b,hk,hd,ha=>by
  have key:∀ (cs:List Ze) (rest:List Ze) (b:Int),(∀ y∈cs,y.Kind = 1)→ownL (cs++rest) d a b = ownL rest d a (b+cs.length):=by
   intro cs
   induction cs with
   | nil=>intro rest b _; simp
   | cons y cs ih=>
    intro rest b hy
    have h1:=hy y (by simp)
    rw [List.cons_append,ownL,if_neg (by omega),if_neg (by omega),if_neg (by omega),List.nil_append,ih rest (b+1) (fun z hz=>hy z (by simp [hz]))]
    congr 1; simp; omega
  have e:toks (text x cs r)++rest = (x :: cs)++(toks r++rest):=by simp [toks]
  rw [e,key (x :: cs) _ b (fun y hy=>by rcases List.mem_cons.1 hy with rfl | hy; exact hk.1; exact hk.2.1 y hy),Ypb r rest d a _ hk.2.2.2 hd ha]
  congr 1; rw [tl_text]; simp; omega
 | node o k c r,rest,d,a,b,hk,hd,ha=>by
  obtain ⟨h1,h2,h3,h4,h5⟩:=hk
  have e:toks (node o k c r)++rest = o :: (toks k++(c :: (toks r++rest))):=by simp [toks]
  rw [e,ownL,if_pos h1,if_neg (by omega),List.nil_append,if_pos (.inl ha),Ypb k _ (d+1) (a+1) (b+1) h4 (by omega) (by omega)]
  rw [ownL,if_neg (by omega),if_pos h2,if_neg (by omega),if_pos (by omega)]
  have e1:d+1 - 1 = d:=by omega
  have e2:a+1 - 1 = a:=by omega
  rw [e1,e2,Ypb r rest d a _ h5 hd ha]
  congr 1; rw [tl_node]; omega
theorem own_inn:∀ (F:Fo) (rest:List Ze) (d b:Int),ok F→1≤d→ownL (toks F++rest) d 0 b = inn b F++ownL rest d 0 (b+tl F)
 | nil,rest,d,b,_,_=>by simp [toks,tl_nil,inn]
 | text x cs r,rest,d,b,hk,hd=>by
  have key:∀ (cs:List Ze) (rest:List Ze) (b:Int),(∀ y∈cs,y.Kind = 1)→ownL (cs++rest) d 0 b = enum cs b++ownL rest d 0 (b+cs.length):=by
   intro cs
   induction cs with
   | nil=>intro rest b _; simp [enum]
   | cons y cs ih=>
    intro rest b hy
    have h1:=hy y (by simp)
    rw [List.cons_append,ownL,if_neg (by omega),if_neg (by omega),if_pos rfl,ih rest (b+1) (fun z hz=>hy z (by simp [hz]))]
    simp only [enum,List.cons_append,List.nil_append,List.length_cons]
    congr 3; omega
  have e:toks (text x cs r)++rest = (x :: cs)++(toks r++rest):=by simp [toks]
  rw [e,key (x :: cs) _ b (fun y hy=>by rcases List.mem_cons.1 hy with rfl | hy; exact hk.1; exact hk.2.1 y hy),own_inn r rest d _ hk.2.2.2 hd]
  have e9:b+((x :: cs).length:Int)+tl r = b+tl (text x cs r):=by rw [tl_text]; simp; omega
  rw [e9]
  simp only [inn,List.append_assoc,List.length_cons]
 | node o k c r,rest,d,b,hk,hd=>by
  obtain ⟨h1,h2,h3,h4,h5⟩:=hk
  have e:toks (node o k c r)++rest = o :: (toks k++(c :: (toks r++rest))):=by simp [toks]
  have e1:d+1 - 1 = d:=by omega
  have et:b+tl (node o k c r) = b+2+tl k+tl r:=by rw [tl_node]; omega
  rw [e,ownL,if_pos h1,et]
  unfold inn
  by_cases c1:o.Ch = 110
  ·rw [if_pos ⟨rfl,by omega⟩,if_pos (.inr (.inl c1)),if_pos c1,Ypb k _ (d+1) (0+1) (b+1) h4 (by omega) (by omega)]
   rw [ownL,if_neg (by omega),if_pos h2,if_neg (by omega),if_pos (by omega),e1]
   have e2:(0:Int)+1 - 1 = 0:=by omega
   have e3:b+1+tl k+1 = b+2+tl k:=by omega
   rw [e2,e3,own_inn r rest d _ h5 hd,List.append_assoc]
  ·by_cases c2:o.Ch = 108
   ·rw [if_neg (fun q=>q.2 c2),if_pos (.inr (.inr c2)),if_neg c1,if_pos c2,Ypb k _ (d+1) (0+1) (b+1) h4 (by omega) (by omega)]
    rw [ownL,if_neg (by omega),if_pos h2,if_neg (by omega),if_pos (by omega),e1]
    have e2:(0:Int)+1 - 1 = 0:=by omega
    have e3:b+1+tl k+1 = b+2+tl k:=by omega
    rw [e2,e3,own_inn r rest d _ h5 hd,List.append_assoc]
   ·rw [if_pos ⟨rfl,c2⟩,if_neg (by omega),if_neg c1,if_neg c2,own_inn k _ (d+1) (b+1) h4 (by omega)]
    rw [ownL,if_neg (by omega),if_pos h2,if_neg (by omega),if_neg (by omega),e1]
    have e3:b+1+tl k+1 = b+2+tl k:=by omega
    rw [e3,own_inn r rest d _ h5 hd]
    simp
def Ko:Int→Fo→List (Int×Fo)
 | _,nil=>[]
 | b,text x cs r=>Ko (b+(cs.length+1:Nat)) r
 | b,node o k c r=>(if Zpa o.Ch then [(b,k)] else [])++(Ko (b+1) k++Ko (b+2+tl k) r)
theorem flows_eq:∀ (F:Fo) (b:Int),ok F→Xs (toks F) b = (Ko b F).map (·.1)
 | nil,b,_=>rfl
 | text x cs r,b,hk=>by
  have key:∀ (cs:List Ze) (b:Int),(∀ y∈cs,y.Kind = 1)→Xs cs b = []:=by
   intro cs
   induction cs with
   | nil=>intros; rfl
   | cons y cs ih=>
    intro b hy
    have h1:=hy y (by simp)
    unfold Xs
    rw [if_neg (by simp [begB,h1]),ih _ (fun z hz=>hy z (by simp [hz]))]; rfl
  have e:toks (text x cs r) = (x :: cs)++toks r:=by simp [toks]
  rw [e,Ws,key (x :: cs) b (fun y hy=>by rcases List.mem_cons.1 hy with rfl | hy; exact hk.1; exact hk.2.1 y hy),List.nil_append,flows_eq r _ hk.2.2.2]
  rfl
 | node o k c r,b,hk=>by
  obtain ⟨h1,h2,h3,h4,h5⟩:=hk
  have e:toks (node o k c r) = [o]++(toks k++([c]++toks r)):=by simp [toks]
  rw [e,Ws,Ws,Ws,flows_eq k _ h4,flows_eq r _ h5]
  have ec:Xs [c] (b+([o]:List Ze).length+(toks k).length) = []:=by simp [Xs,begB,h2]
  rw [ec]
  rw [Ko,List.map_append,List.map_append]
  have eo:Xs [o] b = ((if Zpa o.Ch then [(b,k)] else []):List (Int×Fo)).map (·.1):=by
   unfold Xs begB
   rw [h1]
   cases Zpa o.Ch <;> rfl
  rw [eo,List.nil_append]
  have e3:b+([o]:List Ze).length+(toks k).length+([c]:List Ze).length = b+2+tl k:=by rw [tl_len]; simp; omega
  rw [e3]
  rfl
theorem V0a:∀ (F:Fo) (b:Int) {p:Int} {k:Fo},(p,k)∈Ko b F→ok F→∃ A o c B,toks F = A++o :: (toks k++c :: B)∧p = b+A.length∧c.Kind = 3∧ok k∧o.Kind = 2∧Zpa o.Ch = true
 | nil,b,p,k,h,_=>by cases h
 | text x cs r,b,p,k,h,hk=>by
  obtain ⟨A,o,c,B,h1,h2,h3⟩:=V0a r _ h hk.2.2.2
  exact ⟨(x :: cs)++A,o,c,B,by simp [toks,h1],by rw [h2]; simp; omega,h3⟩
 | node o k' c r,b,p,k,h,hk=>by
  obtain ⟨h1,h2,h3,h4,h5⟩:=hk
  unfold Ko at h
  rcases List.mem_append.1 h with h | h
  ·split at h
   ·rename_i hf
    simp only [List.mem_singleton,Prod.mk.injEq] at h
    obtain ⟨rfl,rfl⟩:=h
    exact ⟨[],o,c,toks r,by simp [toks],by simp,h2,h4,h1,hf⟩
   ·cases h
  ·rcases List.mem_append.1 h with h | h
   ·obtain ⟨A,o',c',B,g1,g2,g3⟩:=V0a k' _ h h4
    exact ⟨o :: A,o',c',B++c :: toks r,by simp [toks,g1],by rw [g2]; simp; omega,g3⟩
   ·obtain ⟨A,o',c',B,g1,g2,g3⟩:=V0a r _ h h5
    exact ⟨(o :: (toks k'++[c]))++A,o',c',B,by simp [toks,g1],by rw [g2,← tl_len]; simp; omega,g3⟩
theorem itemsP_inn {m:Zg} {l:List Ze} {F:Fo} (ht:toks F = l) (hk:ok F) {p:Int} {k:Fo} (h:(p,k)∈Ko 0 F):0≤p∧p < l.length∧begB (l.getD p.toNat tok0) = true∧itemsP m l p.toNat = Wn m ((inn (p+1) k).foldl (Jv m) ([],[],0)):=by
 obtain ⟨A,o,c,B,h1,h2,h3,h4,h5,h6⟩:=V0a F 0 h hk
 rw [ht] at h1
 have hp:p = (A.length:Int):=by omega
 subst hp
 have hd:l.drop (A.length+1) = toks k++c :: B:=by rw [h1]; simp
 refine ⟨by omega,by rw [h1]; simp; omega,?_,?_⟩
 ·rw [Int.toNat_natCast,h1]; simp [List.getD,begB,h5,h6]
 ·unfold itemsP
  rw [Int.toNat_natCast,hd,own_inn k _ 1 _ h4 (by omega),ownL,if_neg (by omega),if_pos h3,if_pos (by omega),List.append_nil]
def nh (l:List Zh):List Zh:=l.filter fun x=>decide (x.Kind≠3)
theorem Vm (a b:List Zh):nh (a++b) = nh a++nh b:=List.filter_append ..
def boxes (m:Zg) (fr:Int):List Int→Int→List Zh
 | [],_=>[]
 | c :: cs,i=>⟨1,wAt m c.toNat,0,0,fr+i⟩ :: boxes m fr cs (i+1)
theorem nh_word (m:Zg) (pts:List Int) (fr:Int):∀ (w:List Int) (i:Int),nh (Jda m pts fr w i) = boxes m fr w i
 | [],_=>rfl
 | c :: w,i=>by
  unfold Jda
  rw [Vm,Vm,nh_word m pts fr w]
  split <;> rfl
theorem boxes_append (m:Zg) (fr:Int):∀ (a b:List Int) (i:Int),boxes m fr (a++b) i = boxes m fr a i++boxes m fr b (i+a.length)
 | [],b,i=>by simp [boxes]
 | c :: a,b,i=>by
  simp only [List.cons_append,boxes,boxes_append m fr a b,List.length_cons]
  congr 3; omega
theorem nh_spell (m:Zg) (s:IS):nh (Wn m s) = nh s.1++boxes m s.2.2 s.2.1 0:=by
 unfold Wn; rw [Vm,nh_word]
theorem nh_item (m:Zg) (z:Int×Ze):nh (V7 m z) = V7 m z:=by
 unfold V7
 split
 ·rfl
 ·split
  ·rfl
  ·split <;> rfl
theorem nh_take (m:Zg) (s:IS) (z:Int×Ze):nh (Wn m (Jv m s z)) = nh (Wn m s)++V7 m z:=by
 unfold Jv
 dsimp only
 have reset:nh (Wn m (Wn m s,[],z.1)) = nh (Wn m s):=by rw [nh_spell]; simp [boxes]
 by_cases hl:letB z.2 = true
 ·rw [if_pos hl]
  have hit:V7 m z = [⟨1,wAt m z.2.Ch.toNat,0,0,z.1⟩]:=by
   unfold letB at hl
   simp only [Bool.and_eq_true,decide_eq_true_eq] at hl
   have:=isL_le hl.2
   have h32:z.2.Ch≠32:=by
    intro e; have h2:=hl.2; rw [e] at h2; exact absurd h2 (by decide)
   unfold V7
   rw [if_neg (fun q=>h32 q.2),if_pos hl.1]
  rw [hit,nh_spell]
  dsimp only
  by_cases c:letB z.2 = false∨z.1≠s.2.2+s.2.1.length
  ·rw [if_pos c]
   dsimp only
   simp only [List.nil_append,boxes,Int.add_zero]
  ·rw [if_neg c,boxes_append,nh_spell]
   have:z.1 = s.2.2+s.2.1.length:=by
    by_cases e:z.1 = s.2.2+s.2.1.length
    ·exact e
    ·exact absurd (.inr e) c
   simp only [boxes,Int.zero_add,List.append_assoc]
   rw [this]
 ·rw [if_neg hl]
  have hf:letB z.2 = false:=by simpa using hl
  rw [if_pos (.inl hf)]
  rw [nh_spell]
  dsimp only
  rw [Vm,nh_item]
  simp [boxes]
theorem nh_fold (m:Zg):∀ (L:List (Int×Ze)) (s:IS),nh (Wn m (L.foldl (Jv m) s)) = nh (Wn m s)++L.flatMap (V7 m)
 | [],s=>by simp
 | z :: L,s=>by rw [List.foldl_cons,nh_fold m L,nh_take]; simp
theorem nh_items {m:Zg} (L:List (Int×Ze)):nh (Wn m (L.foldl (Jv m) ([],[],0))) = L.flatMap (V7 m):=by
 rw [nh_fold]
 have:nh (Wn m ([],[],0)) = []:=by unfold Wn; rfl
 rw [this,List.nil_append]
def HT (l:List Zh):Prop:=∀ x∈l,∃ y∈nh l,y.Tok = x.Tok
theorem HT.append {a b:List Zh} (h1:HT a) (h2:HT b):HT (a++b):=by
 intro x hx
 rw [Vm]
 rcases List.mem_append.1 hx with hx | hx
 ·obtain ⟨y,hy,e⟩:=h1 x hx; exact ⟨y,List.mem_append_left _ hy,e⟩
 ·obtain ⟨y,hy,e⟩:=h2 x hx; exact ⟨y,List.mem_append_right _ hy,e⟩
theorem HT_word (m:Zg) (pts:List Int) (fr:Int):∀ (w:List Int) (i:Int),HT (Jda m pts fr w i)
 | [],_=>fun x hx=>by cases hx
 | c :: w,i=>by
  unfold Jda
  refine HT.append ?_ (HT_word m pts fr w (i+1))
  intro x hx
  refine ⟨⟨1,wAt m c.toNat,0,0,fr+i⟩,by rw [Vm]; exact List.mem_append_right _ (by simp [nh]),?_⟩
  rcases List.mem_append.1 hx with hx | hx
  ·split at hx
   ·simp at hx; rw [hx]
   ·cases hx
  ·simp at hx; rw [hx]
theorem HT_item (m:Zg) (z:Int×Ze):HT (V7 m z):=fun x hx=>⟨x,by rw [nh_item]; exact hx,rfl⟩
theorem HT_take (m:Zg) (s:IS) (z:Int×Ze) (h:HT s.1):HT (Jv m s z).1:=by
 have hs:HT (Wn m s):=h.append (HT_word _ _ _ _ _)
 unfold Jv
 dsimp only
 split
 ·split
  ·exact hs
  ·exact h
 ·split
  ·exact hs.append (HT_item m z)
  ·exact h.append (HT_item m z)
theorem HT_fold (m:Zg):∀ (L:List (Int×Ze)) (s:IS),HT s.1→HT (Wn m (L.foldl (Jv m) s))
 | [],s,h=>h.append (HT_word _ _ _ _ _)
 | z :: L,s,h=>HT_fold m L _ (HT_take m s z h)
def posL (b:Int):Nat→List Int
 | 0=>[]
 | n+1=>b :: posL (b+1) n
def innS:Int→Fo→List Int
 | _,nil=>[]
 | b,text x cs r=>posL b (cs.length+1)++innS (b+(cs.length+1:Nat)) r
 | b,node o k c r=>(if o.Ch = 110 then [b] else if o.Ch = 108 then [] else innS (b+1) k)++innS (b+2+tl k) r
theorem K9a (m:Zg) (z:Int×Ze):(V7 m z).map (·.Tok) = if z.2.Kind = 1∨(z.2.Kind = 2∧z.2.Ch = 110) then [z.1] else []:=by
 unfold V7
 by_cases k1:z.2.Kind = 1
 ·rw [if_pos (show z.2.Kind = 1∨_ from .inl k1)]
  by_cases k3:z.2.Kind = 1∧z.2.Ch = 32
  ·rw [if_pos k3]; rfl
  ·rw [if_neg k3,if_pos k1]; rfl
 ·rw [if_neg (show ¬ (z.2.Kind = 1∧z.2.Ch = 32) from fun q=>k1 q.1),if_neg k1]
  by_cases k2:z.2.Kind = 2∧z.2.Ch = 110
  ·rw [if_pos k2,if_pos (.inr k2)]; rfl
  ·rw [if_neg k2,if_neg (fun q=>q.elim k1 k2)]; rfl
theorem innS_eq (m:Zg):∀ (F:Fo) (b:Int),ok F→((inn b F).flatMap (V7 m)).map (·.Tok) = innS b F
 | nil,b,_=>rfl
 | text x cs r,b,hk=>by
  have key:∀ (cs:List Ze) (b:Int),(∀ y∈cs,y.Kind = 1)→((enum cs b).flatMap (V7 m)).map (·.Tok) = posL b cs.length:=by
   intro cs
   induction cs with
   | nil=>intros; rfl
   | cons y cs ih=>
    intro b hy
    simp only [enum,List.flatMap_cons,List.map_append]
    rw [K9a,if_pos (.inl (hy y (by simp))),ih _ (fun z hz=>hy z (by simp [hz]))]; rfl
  unfold inn innS
  rw [List.flatMap_append,List.map_append,key (x :: cs) b (fun y hy=>by rcases List.mem_cons.1 hy with rfl | hy; exact hk.1; exact hk.2.1 y hy),innS_eq m r _ hk.2.2.2]; rfl
 | node o k c r,b,hk=>by
  obtain ⟨h1,h2,h3,h4,h5⟩:=hk
  unfold inn innS
  rw [List.flatMap_append,List.map_append,innS_eq m r _ h5]
  congr 1
  by_cases c1:o.Ch = 110
  ·rw [if_pos c1,if_pos c1]
   simp only [List.flatMap_cons,List.flatMap_nil,List.append_nil]
   rw [K9a,if_pos (.inr ⟨h1,c1⟩)]
  ·rw [if_neg c1,if_neg c1]
   by_cases c2:o.Ch = 108
   ·rw [if_pos c2,if_pos c2]; rfl
   ·rw [if_neg c2,if_neg c2]
    simp only [List.flatMap_cons,List.flatMap_append,List.flatMap_nil,List.append_nil,List.map_append]
    rw [K9a,K9a,if_neg (fun q=>by rcases q with q | q; (have:o.Kind = 1:=q; omega); exact c1 q.2),if_neg (fun q=>by rcases q with q | q; (have:c.Kind = 1:=q; omega); (have:c.Kind = 2:=q.1; omega)),innS_eq m k _ h4]
    simp
theorem posL_mem:∀ (n:Nat) (b q:Int),q∈posL b n→b≤q∧q < b+n
 | 0,b,q,h=>by cases h
 | n+1,b,q,h=>by
  rcases List.mem_cons.1 h with rfl | h
  ·omega
  ·have:=posL_mem n (b+1) q h; omega
theorem Waa:∀ (F:Fo) (b q:Int),q∈innS b F→b≤q∧q < b+tl F
 | nil,b,q,h=>by cases h
 | text x cs r,b,q,h=>by
  unfold innS at h
  rcases List.mem_append.1 h with h | h
  ·have:=posL_mem _ _ _ h; rw [tl_text]; have:=tl_nn r; omega
  ·have:=Waa r _ _ h; rw [tl_text]; omega
 | node o k c r,b,q,h=>by
  unfold innS at h
  rcases List.mem_append.1 h with h | h
  ·split at h
   ·simp at h; subst h; rw [tl_node]; have:=tl_nn r; have:=tl_nn k; omega
   ·split at h
    ·cases h
    ·have:=Waa k _ _ h; rw [tl_node]; have:=tl_nn r; omega
  ·have:=Waa r _ _ h; rw [tl_node]; have:=tl_nn k; omega
theorem posL_sorted:∀ (n:Nat) (b:Int),(posL b n).Pairwise (· < ·)
 | 0,_=>List.Pairwise.nil
 | n+1,b=>List.Pairwise.cons (fun q hq=>by have:=posL_mem n (b+1) q hq; omega) (posL_sorted n (b+1))
theorem X9a:∀ (F:Fo) (b:Int),(innS b F).Pairwise (· < ·)
 | nil,_=>List.Pairwise.nil
 | text x cs r,b=>by
  unfold innS
  refine List.pairwise_append.2 ⟨posL_sorted _ _,X9a r _,fun p hp q hq=>?_⟩
  have:=posL_mem _ _ _ hp; have:=Waa r _ _ hq; omega
 | node o k c r,b=>by
  unfold innS
  refine List.pairwise_append.2 ⟨?_,X9a r _,fun p hp q hq=>?_⟩
  ·split
   ·exact List.pairwise_singleton _ _
   ·split
    ·exact List.Pairwise.nil
    ·exact X9a k _
  ·have h2:=Waa r _ _ hq
   split at hp
   ·simp at hp; subst hp; have:=tl_nn k; omega
   ·split at hp
    ·cases hp
    ·have:=Waa k _ _ hp; omega
theorem enum_get:∀ (l:List Ze) (b i:Int) (x:Ze),(i,x)∈enum l b→b≤i∧l[(i - b).toNat]? = some x
 | [],b,i,x,h=>by cases h
 | y :: l,b,i,x,h=>by
  rcases List.mem_cons.1 h with h | h
  ·cases h; simp
  ·obtain ⟨h1,h2⟩:=enum_get l (b+1) i x h
   refine ⟨by omega,?_⟩
   have:(i - b).toNat = (i - (b+1)).toNat+1:=by omega
   rw [this]; simpa using h2
theorem inn_get:∀ (F:Fo) (b i:Int) (x:Ze),(i,x)∈inn b F→b≤i∧(toks F)[(i - b).toNat]? = some x
 | nil,b,i,x,h=>by cases h
 | text y cs r,b,i,x,h=>by
  unfold inn at h
  have e:toks (text y cs r) = (y :: cs)++toks r:=by simp [toks]
  rw [e]
  rcases List.mem_append.1 h with h | h
  ·obtain ⟨h1,h2⟩:=enum_get _ _ _ _ h
   have:=(List.getElem?_eq_some_iff.1 h2).1
   exact ⟨h1,by rw [List.getElem?_append_left this]; exact h2⟩
  ·obtain ⟨h1,h2⟩:=inn_get r _ _ _ h
   refine ⟨by omega,?_⟩
   rw [List.getElem?_append_right (by simp; omega)]
   have:(i - b).toNat - (y :: cs).length = (i - (b+((cs.length+1:Nat):Int))).toNat:=by simp; omega
   rw [this]; exact h2
 | node o k c r,b,i,x,h=>by
  unfold inn at h
  have e:toks (node o k c r) = o :: (toks k++(c :: toks r)):=by simp [toks]
  rw [e]
  have self:(i,x) = (b,o)→b≤i∧(o :: (toks k++(c :: toks r)))[(i - b).toNat]? = some x:=by
   intro h; cases h; simp
  rcases List.mem_append.1 h with h | h
  ·split at h
   ·exact self (by simpa using h)
   ·split at h
    ·cases h
    ·rcases List.mem_cons.1 h with h | h
     ·exact self h
     ·rcases List.mem_append.1 h with h | h
      ·obtain ⟨h1,h2⟩:=inn_get k _ _ _ h
       have hl:=(List.getElem?_eq_some_iff.1 h2).1
       refine ⟨by omega,?_⟩
       have:(i - b).toNat = (i - (b+1)).toNat+1:=by omega
       rw [this,List.getElem?_cons_succ,List.getElem?_append_left hl]; exact h2
      ·simp only [List.mem_singleton,Prod.mk.injEq] at h
       obtain ⟨rfl,rfl⟩:=h
       refine ⟨by have:=tl_nn k; omega,?_⟩
       have:(b+1+tl k - b).toNat = (toks k).length+1:=by rw [← tl_len]; omega
       rw [this,List.getElem?_cons_succ,List.getElem?_append_right (Nat.le_refl _)]; simp
  ·obtain ⟨h1,h2⟩:=inn_get r _ _ _ h
   refine ⟨by have:=tl_nn k; omega,?_⟩
   have:(i - b).toNat = ((i - (b+2+tl k)).toNat+1+(toks k).length)+1:=by have:=tl_len k; omega
   rw [this,List.getElem?_cons_succ,List.getElem?_append_right (by omega)]
   have e2:(i - (b+2+tl k)).toNat+1+(toks k).length - (toks k).length = (i - (b+2+tl k)).toNat+1:=by omega
   rw [e2,List.getElem?_cons_succ]; exact h2
def Wva:Int→Fo→List Int
 | _,nil=>[]
 | b,text x cs r=>posL b (cs.length+1)++Wva (b+(cs.length+1:Nat)) r
 | b,node o k c r=>(if o.Ch = 110 then [b] else [])++(Wva (b+1) k++Wva (b+2+tl k) r)
def allS (L:List (Int×Fo)):List Int:=L.flatMap fun z=>innS (z.1+1) z.2
def insK (k:Int):Bool:=[49,50,51,112,99,110,101,115,105].contains k
theorem pair_in {p c:Int} (h:Vqa p c = true) (hp:insK p = true):c = 46∨((c = 101∨c = 115)∧Zpa c = false∧insK c = true)∨(c = 110∧Zpa c = true∧insK c = true)∨(c = 108∧Zpa c = false∧insK c = false):=by
 obtain ⟨q,hq,rfl,hc⟩:=K5a h
 have:∀ q∈pairK,insK q.1 = true→∀ c∈q.2,c = 46∨((c = 101∨c = 115)∧Zpa c = false∧insK c = true)∨(c = 110∧Zpa c = true∧insK c = true)∨(c = 108∧Zpa c = false∧insK c = false):=by decide +kernel
 exact this q hq hp c hc
theorem pair_out {p c:Int} (h:Vqa p c = true) (hp:insK p = false):c≠46∧c≠110∧Zpa c = insK c:=by
 obtain ⟨q,hq,rfl,hc⟩:=K5a h
 have:∀ q∈pairK,insK q.1 = false→∀ c∈q.2,c≠46∧c≠110∧Zpa c = insK c:=by decide +kernel
 exact this q hq hp c hc
theorem Wka (a b:List (Int×Fo)):allS (a++b) = allS a++allS b:=by simp [allS]
theorem K2a:∀ (F:Fo) (p b q:Int),wfF p F→(insK p = true→(innS b F).count q+(allS (Ko b F)).count q = (Wva b F).count q)∧(insK p = false→(allS (Ko b F)).count q = (Wva b F).count q)
 | nil,p,b,q,_=>⟨fun _=>rfl,fun _=>rfl⟩
 | text x cs r,p,b,q,h=>by
  obtain ⟨h1,h2⟩:=K2a r p (b+(cs.length+1:Nat)) q h.2
  refine ⟨fun hp=>?_,fun hp=>absurd rfl (pair_out h.1 hp).1⟩
  have:=h1 hp
  rw [innS,Ko,Wva,List.count_append,List.count_append]; omega
 | node o k c r,p,b,q,h=>by
  obtain ⟨hpo,hk,hr⟩:=h
  obtain ⟨r1,r2⟩:=K2a r p (b+2+tl k) q hr
  obtain ⟨k1,k2⟩:=K2a k o.Ch (b+1) q hk
  have efl:allS (Ko b (node o k c r)) = (if Zpa o.Ch then innS (b+1) k else [])++(allS (Ko (b+1) k)++allS (Ko (b+2+tl k) r)):=by
   rw [Ko,Wka,Wka]
   congr 1
   split <;> simp [allS]
  refine ⟨fun hp=>?_,fun hp=>?_⟩
  ·have hr1:=r1 hp
   rw [efl]
   rw [innS,Wva]
   simp only [List.count_append]
   rcases pair_in hpo hp with e | ⟨e,f1,f2⟩ | ⟨e,f1,f2⟩ | ⟨e,f1,f2⟩
   ·
    rw [e] at k2 k1 hk ⊢
    have hk0:k = nil:=by
     cases k with
     | nil=>rfl
     | text x cs r'=>exact absurd hk.1 (by decide +kernel)
     | node o' k' c' r'=>
      obtain ⟨q',hq',e1,_⟩:=K5a hk.1
      have:∀ q∈pairK,q.1≠46:=by decide
      exact absurd e1 (this q' hq')
    subst hk0
    have hf:Zpa 46 = false:=dot_flow
    rw [hf]
    simp [innS,Wva,Ko,allS] at hr1 ⊢; omega
   ·have hk1:=k1 f2
    rw [f1,if_neg (show ¬ o.Ch = 110 by omega),if_neg (show ¬ o.Ch = 108 by omega)]
    simp only [Bool.false_eq_true,if_false,List.count_nil]
    rw [if_neg (show ¬ o.Ch = 110 by omega)]; simp only [List.count_nil]; omega
   ·have hk1:=k1 f2
    rw [f1,if_pos e,if_pos e,if_pos rfl]
    omega
   ·have hk2:=k2 f2
    rw [f1,if_neg (show ¬ o.Ch = 110 by omega),if_pos e,if_neg (show ¬ o.Ch = 110 by omega)]
    simp only [Bool.false_eq_true,if_false,List.count_nil]; omega
  ·have hr2:=r2 hp
   obtain ⟨n1,n2,n3⟩:=pair_out hpo hp
   rw [efl]
   rw [Wva,if_neg n2]
   simp only [List.count_append,List.count_nil]
   cases e:insK o.Ch with
   | true=>
    rw [n3,e]
    have:=k1 e
    simp only [if_true]; omega
   | false=>
    rw [n3,e]
    have:=k2 e
    simp only [Bool.false_eq_true,if_false,List.count_nil]; omega
end Go.Proofs.YtpkhmfedaaoalaaGreatDoor
