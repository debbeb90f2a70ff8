/- ItemsGlues: a part of its proof (packed by a program). -/
import Derived.Test.YtpkhmfedaaoalaaGreatDoorIth
set_option linter.all false
namespace Go.Proofs.YtpkhmfedaaoalaaGreatDoor
open Go Go.Proofs.YtpkhmfedaaoalaaGreatDoor.AM Fo
def Zlb (s:ByteArray):ByteArray:=if 1≤s.size∧s.extract 0 1 = ⟨#[46]⟩ then s.extract 1 s.size else s
def trimSuf (s:ByteArray):ByteArray:=if 1≤s.size∧s.extract (s.size - 1) s.size = ⟨#[46]⟩ then s.extract 0 (s.size - 1) else s
theorem trimPre_w (s:ByteArray) {Q:ByteArray→Prop} (h:Q (Zlb s)):Yp.w s ⟨#[46]⟩ Q:=by
 unfold Yp.w Yb.w Yc.w
 unfold Zlb at h
 have e1:(⟨#[46]⟩:ByteArray).size = 1:=rfl
 rw [e1]
 by_cases c1:1≤s.size
 ·rw [if_pos (by omega)]
  refine ⟨c1,?_⟩
  by_cases c2:s.extract 0 1 = ⟨#[46]⟩
  ·rw [if_pos ⟨c1,c2⟩] at h
   rw [if_pos (by simpa using c2)]; exact ⟨c1,h⟩
  ·rw [if_neg fun q=>c2 q.2] at h
   rw [if_neg (by simpa using c2)]; exact h
 ·rw [if_neg (by omega)]
  dsimp only
  rw [if_neg (by simp)]
  rw [if_neg fun q=>c1 q.1] at h; exact h
theorem trimSuf_w (s:ByteArray) (hs:s.size≤1000000) {Q:ByteArray→Prop} (h:Q (trimSuf s)):Z8.w s ⟨#[46]⟩ Q:=by
 unfold Z8.w Z2.w Z4.w
 unfold trimSuf at h
 have e1:(⟨#[46]⟩:ByteArray).size = 1:=rfl
 rw [e1]
 by_cases c1:1≤s.size
 ·rw [if_pos (by omega)]
  have e2:((s.size:Int) - ((1:Nat):Int)).toNat = s.size - 1:=by omega
  rw [e2]
  refine ⟨by constructor <;> omega,by omega,by omega,?_⟩
  by_cases c2:s.extract (s.size - 1) s.size = ⟨#[46]⟩
  ·rw [if_pos ⟨c1,c2⟩] at h
   rw [if_pos (by simpa using c2)]; exact ⟨by constructor <;> omega,by omega,by omega,h⟩
  ·rw [if_neg fun q=>c2 q.2] at h
   rw [if_neg (by simpa using c2)]; exact h
 ·rw [if_neg (by omega)]
  dsimp only
  rw [if_neg (by simp)]
  rw [if_neg fun q=>c1 q.1] at h; exact h
def smallB (c:Int):Bool:=decide (c < 97) || decide (122 < c)
def digB (c:Int):Bool:=decide (c < 48) || decide (57 < c)
def rightM (p:Zj):Bool:=decide (trimSuf (Zlb p.Letters)≠⟨#[]⟩) && decide (p.Letters.size≤16) && !(Zd (trimSuf (Zlb p.Letters))).any smallB && decide (p.Figures.size = p.Letters.size+1) && !(Zd p.Figures).any digB
theorem extract_size_le (s:ByteArray) (a b:Nat):(s.extract a b).size≤s.size:=by rw [ByteArray.size_extract]; omega
theorem trimPre_le (s:ByteArray):(Zlb s).size≤s.size:=by unfold Zlb; split; exact extract_size_le _ _ _; exact Nat.le_refl _
theorem right_w (p:Zj) (h1:p.Letters.size≤1000000) {Q:Bool→Prop} (h:Q (rightM p)):V4.w p Q:=by
 unfold V4.w
 refine trimPre_w _ (trimSuf_w _ (Nat.le_trans (trimPre_le _) h1) ?_)
 unfold rightM at h
 generalize trimSuf (Zlb p.Letters) = r at h
 by_cases c1:r = ⟨#[]⟩
 ·rw [if_pos c1]; simpa [c1] using h
 rw [if_neg c1]
 by_cases c2:p.Letters.size≤16
 ·rw [if_pos (by omega)]
  unfold Y5.w Xp.w Xm.w
  have odd:∀ c,0≤c→∀ Q:Bool→Prop,Q (smallB c)→Wd.w c Q:=by
   intro c _ Q hq
   unfold Wd.w; unfold smallB at hq
   split
   ·rename_i e; simpa [e] using hq
   ·rename_i e; simpa [e] using hq
  refine anyB_w r smallB Wd.w odd (fun c hc=>by simp [smallB]; right; omega) (fun ha n=>?_) (fun ha=>?_)
  ·rw [decide_eq_true (by omega)]; dsimp only; rw [if_neg (by simp)]; simpa [c1,c2,ha] using h
  ·rw [decide_eq_false (by omega)]
   dsimp only
   rw [if_pos (by simp)]
   refine ⟨by constructor <;> omega,?_⟩
   by_cases c3:p.Figures.size = p.Letters.size+1
   ·rw [if_pos (by omega)]
    unfold Y4.w Xo.w Xl.w
    have odd2:∀ c,0≤c→∀ Q:Bool→Prop,Q (digB c)→Wc.w c Q:=by
     intro c _ Q hq
     unfold Wc.w; unfold digB at hq
     split
     ·rename_i e; simpa [e] using hq
     ·rename_i e; simpa [e] using hq
    refine anyB_w p.Figures digB Wc.w odd2 (fun c hc=>by simp [digB]; right; omega) (fun ha2 n=>?_) (fun ha2=>?_)
    ·rw [decide_eq_true (by omega)]; simpa [c1,c2,c3,ha,ha2] using h
    ·rw [decide_eq_false (by omega)]; simpa [c1,c2,c3,ha,ha2] using h
   ·rw [if_neg (by omega)]; simpa [c1,c2,c3,ha] using h
 ·rw [if_neg (by omega)]; simpa [c1,c2] using h
def wAt (m:Zg) (c:Nat):Int:=m.Widths.getD c 0
def wideB (m:Zg) (c:Nat):Bool:=(isC (c:Int) == decide (0 < wAt m c)) && !decide (wAt m c < 0) && !decide (2000 < wAt m c)
def wholeM (m:Zg):Bool:=(List.range 128).all (wideB m)
theorem X0a {m:Zg} (h:m.Widths.length = 128) {c:Nat} (hc:c < 128):m.Widths[c]? = some (wAt m c):=by
 unfold wAt; rw [List.getD,List.getElem?_eq_getElem (by omega)]; rfl
theorem wholeM_w (m:Zg) (hm:m.Widths.length = 128) {Q:Bool→Prop} (h:Q (wholeM m)):Ve.w m Q:=by
 unfold Ve.w
 refine ⟨hm,?_⟩
 unfold wholeM at h
 refine wfor (fun i=>i) (fun n=>(n:Int)) 128 (fun n=>(List.range n).all (wideB m) = true) (fun _ _=>rfl) rfl rfl ?_ ?_
 ·intro n hn hp K hK
  try dsimp only
  rw [if_pos (by omega)]
  refine ⟨by omega,by omega,_,by rw [Int.toNat_natCast]; exact X0a hm hn,?_⟩
  have hb:Byte (n:Int):=⟨by omega,by omega⟩
  rw [wrapB hb]
  refine Is_w hb ?_
  have et:(List.range (n+1)).all (wideB m) = wideB m n:=by
   rw [List.range_succ,List.all_append,hp]; simp
  have stop:wideB m n = false→Q false:=fun e=>by
   have:(List.range 128).all (wideB m) = false:=by
    cases e2:(List.range 128).all (wideB m) with
    | false=>rfl
    | true=>have:=List.all_eq_true.1 e2 n (List.mem_range.2 hn); rw [e] at this; cases this
   rw [this] at h; exact h
  by_cases c1:(isC (n:Int) == decide (0 < wAt m n)) = true
  ·rw [if_neg (by rw [c1]; simp)]
   by_cases c2:wAt m n < 0
   ·rw [if_pos c2]; exact stop (by simp [wideB,c2])
   rw [if_neg c2]
   by_cases c3:2000 < wAt m n
   ·rw [if_pos c3]; exact stop (by simp [wideB,c3])
   rw [if_neg c3]
   refine ⟨V8 (by omega) (by omega),?_⟩
   have:=hK (by rw [et]; unfold wideB; rw [c1,decide_eq_false c2,decide_eq_false c3]; rfl)
   simpa using this
  ·rw [if_pos (by simpa using c1)]; exact stop (by unfold wideB; rw [Bool.eq_false_iff.2 c1]; rfl)
 ·intro hp K
  try dsimp only
  rw [if_neg (by omega)]
  rw [hp] at h; exact h
def V8a (m:Zg):Int:=
 if wholeM m && (decide (0≤m.Stretch) && decide (m.Stretch≤2000) && decide (0≤m.Shrink) && decide (m.Shrink < wAt m 32)) && decide (m.Pats.length≤500) && m.Pats.all rightM then 0 else 7
structure MetOk (m:Zg):Prop where
 w:m.Widths.length = 128
 p:m.Pats.length≤1000
 s:∀ p∈m.Pats,p.Letters.size≤1000∧p.Figures.size≤1000
theorem checkM_w (m:Zg) (hm:MetOk m) {Q:Int→Prop} (h:Q (V8a m)):V5.w m Q:=by
 unfold V5.w
 refine ⟨hm.w,?_⟩
 unfold V8a at h
 unfold wcut
 dsimp only
 have fin:∀ b:Bool,Q (if wholeM m && b && decide (m.Pats.length≤500) && m.Pats.all rightM then 0 else 7)→Ve.w m (fun r1=>
   if (!r1) = true then Q 7 else if (!b) = true then Q 7 else if 500 < (m.Pats.length:Int) then Q 7 else
      Zy.w m.Pats (fun r2=>if r2 = true then Q 7 else Q 0)):=by
  intro b h
  refine wholeM_w m hm.w ?_
  cases e1:wholeM m with
  | false=>rw [e1] at h; rw [if_pos (by simp)]; simpa using h
  | true=>
   rw [e1] at h
   rw [if_neg (by simp)]
   cases b with
   | false=>rw [if_pos (by simp)]; simpa using h
   | true=>
    rw [if_neg (by simp)]
    by_cases c:500 < m.Pats.length
    ·rw [if_pos (by omega)]; rw [decide_eq_false (by omega)] at h; simpa using h
    ·rw [if_neg (by omega)]
     rw [decide_eq_true (by omega)] at h
     unfold Zy.w Ya.w
     refine anyL_w m.Pats (by have:=hm.p; omega) (fun p=>!rightM p) W4.w (fun p hp Q hq=>?_) (fun ha n=>?_) (fun ha=>?_)
     ·unfold W4.w; exact right_w p (by have:=(hm.s p hp).1; omega) hq
     ·rw [decide_eq_true (by omega)]
      dsimp only
      rw [if_pos rfl]
      have:m.Pats.all rightM = false:=by
       obtain ⟨p,hp,hq⟩:=List.any_eq_true.1 ha
       cases e:m.Pats.all rightM with
       | false=>rfl
       | true=>have:=List.all_eq_true.1 e p hp; rw [this] at hq; cases hq
      rw [this] at h; simpa using h
     ·rw [decide_eq_false (by omega)]
      dsimp only
      rw [if_neg (by simp)]
      have:m.Pats.all rightM = true:=by
       rw [List.all_eq_true]
       intro p hp
       have:=List.any_eq_false.1 ha p hp
       simpa using this
      rw [this] at h; simpa using h
 have e32:=X0a hm.w (show 32 < 128 by omega)
 by_cases c1:0≤m.Stretch
 ·rw [if_pos c1]
  by_cases c2:m.Stretch≤2000
  ·rw [if_pos c2]
   by_cases c3:0≤m.Shrink
   ·rw [if_pos c3]
    refine ⟨_,e32,?_⟩
    refine fin _ ?_
    simpa [c1,c2,c3] using h
   ·rw [if_neg c3]; refine fin _ ?_; simpa [c3] using h
  ·rw [if_neg c2]; refine fin _ ?_; simpa [c2] using h
 ·rw [if_neg c1]; refine fin _ ?_; simpa [c1] using h
def Y6a (r w:ByteArray) (i:Nat):Bool:=decide (iand .u8 ((r.data.toList.getD i 0).toNat:Int) 1 = 1) && decide (2≤i+1) && decide (i+1+2≤w.size)
def Ywa (ps:List Zj) (w:ByteArray):List Int:=((List.range (Zwa ps w).size).filter (Y6a (Zwa ps w) w)).map fun i=>((i+1:Nat):Int)
theorem figures_le (ps:List Zj) (w:ByteArray):(Zwa ps w).size≤w.size:=by
 unfold Zwa
 split
 ·rw [Wu,List.length_drop,List.length_take]; omega
 ·exact Nat.zero_le _
theorem points_w (ps:List Zj) (w:ByteArray) (hp:ps.length≤1000∧∀ p∈ps,p.Letters.size≤1000∧p.Figures.size≤1000) (hw:w.size≤1000000) {Q:List Int→Prop} (h:Q (Ywa ps w)):K8.w ps w Q:=by
 unfold K8.w Zda.w
 refine ⟨⟨hp.1,hp.2,hw⟩,?_⟩
 dsimp only
 have hf:=figures_le ps w
 unfold Ywa at h
 generalize Zwa ps w = r at h hf
 refine wfor (fun s=>s.2) (fun n=>(((List.range n).filter (Y6a r w)).map (fun i=>((i+1:Nat):Int)),(n:Int))) r.size (fun _=>True) (fun _ _=>rfl) rfl trivial ?_ ?_
 ·intro n hn _ K hK
  dsimp only
  rw [if_pos (by omega)]
  refine ⟨V8 (by omega) (by omega),?_⟩
  have hle:((List.range n).filter (Y6a r w)).length≤n:=by have:=List.length_filter_le (Y6a r w) (List.range n); simpa using this
  have:=hK trivial
  rw [List.range_succ,List.filter_append] at this
  unfold wcut
  dsimp only
  have hv:r.data.toList.getD n 0 = r.data.toList[n]'(by show n < r.size; exact hn):=by rw [List.getD,List.getElem?_eq_getElem (show n < r.data.toList.length from hn)]; rfl
  refine ⟨by omega,_,bget r hn,?_⟩
  have fin:∀ b:Bool,b = Y6a r w n→(if b = true then ((List.map (fun i=>((i+1:Nat):Int)) ((List.range n).filter (Y6a r w))).length+([(n:Int)+1]:List Int).length) * 8≤140737488355328∧I64 ((n:Int)+1)∧K (List.map (fun i=>((i+1:Nat):Int)) ((List.range n).filter (Y6a r w))++[(n:Int)+1],(n:Int)+1)
    else I64 ((n:Int)+1)∧K (List.map (fun i=>((i+1:Nat):Int)) ((List.range n).filter (Y6a r w)),(n:Int)+1)):=by
   rintro b rfl
   cases e:Y6a r w n with
   | true=>
    rw [if_pos rfl]
    rw [List.filter_cons_of_pos e] at this
    refine ⟨by simp; omega,V8 (by omega) (by omega),?_⟩
    simpa using this
   | false=>
    rw [if_neg (by simp)]
    rw [List.filter_cons_of_neg (by simp [e])] at this
    refine ⟨V8 (by omega) (by omega),?_⟩
    simpa using this
  by_cases c1:iand .u8 ((r.data.toList[n]'(by show n < r.size; exact hn)).toNat:Int) 1 = 1
  ·rw [if_pos c1]
   by_cases c2:2≤(n:Int)+1
   ·rw [if_pos c2]
    refine ⟨by constructor <;> omega,?_⟩
    refine fin _ ?_
    unfold Y6a
    rw [hv,decide_eq_true c1,decide_eq_true (show 2≤n+1 by omega),Bool.true_and,Bool.true_and]
    exact decide_eq_decide.2 (by omega)
   ·rw [if_neg c2]
    refine fin _ ?_
    unfold Y6a
    rw [decide_eq_false (show ¬ 2≤n+1 by omega)]; simp
  ·rw [if_neg c1]
   refine fin _ ?_
   unfold Y6a
   rw [hv,decide_eq_false c1]; simp
 ·intro _ K
  dsimp only
  rw [if_neg (by omega)]; exact h
theorem points_mem {ps:List Zj} {w:ByteArray} {x:Int} (h:x∈Ywa ps w):2≤x∧x+2≤w.size:=by
 unfold Ywa at h
 obtain ⟨i,hi,rfl⟩:=List.mem_map.1 h
 have:=(List.mem_filter.1 hi).2
 simp only [Y6a,Bool.and_eq_true,decide_eq_true_eq] at this
 omega
theorem points_sorted (ps:List Zj) (w:ByteArray):(Ywa ps w).Pairwise (· < ·):=by
 unfold Ywa
 rw [List.pairwise_map]
 exact (List.Pairwise.filter _ List.pairwise_lt_range).imp fun h=>by omega
theorem mid_eq {s:Int} (h0:0≤s) (h1:s≤4611686018427387904):ishr .u64 (IntKind.u64.wrap s) 1 = s / 2:=by
 have e:IntKind.u64.wrap s = s:=by
  unfold IntKind.wrap
  simp [IntKind.bits,IntKind.signed] <;> omega
 rw [e]
 unfold ishr
 have:(2:Int) ^ (min (1:Int).toNat IntKind.u64.bits) = 2:=by decide
 rw [this]
 exact Int.fdiv_eq_ediv_of_nonneg _ (by omega)
theorem search_w (l:List Int) (hl:l.length≤1000000) (hs:l.Pairwise (· < ·)) (x:Int) {Q:Int×Bool→Prop} (h:∀ i,Q (i,l.contains x)):Yj.w l x Q:=by
 unfold Yj.w
 have hlt:∀ i j (hi:i < l.length) (hj:j < l.length),i < j→l[i] < l[j]:=fun i j hi hj hij=>List.pairwise_iff_getElem.1 hs i j hi hj hij
 refine Zib (fun s=>∃ a b:Nat,s = ((a:Int),(b:Int))∧a≤b∧b≤l.length∧(∀ k (hk:k < l.length),k < a→l[k] < x)∧(∀ k (hk:k < l.length),b≤k→¬ l[k] < x)) (fun s=>(s.2 - s.1).toNat) ⟨0,l.length,rfl,Nat.zero_le _,Nat.le_refl _,fun k hk h=>by omega,fun k hk h=>by omega⟩ ?_
 rintro _ ⟨a,b,rfl,hab,hb,h1,h2⟩ K hK
 dsimp only
 by_cases c:(a:Int) < (b:Int)
 ·rw [if_pos c]
  rw [mid_eq (by omega) (by omega)]
  have em:((a:Int)+(b:Int)) / 2 = (((a+b) / 2:Nat):Int):=by omega
  rw [em]
  have hm:(a+b) / 2 < l.length:=by omega
  refine ⟨by constructor <;> omega,by constructor <;> omega,by omega,l[(a+b) / 2],by rw [Int.toNat_natCast]; exact List.getElem?_eq_getElem hm,?_⟩
  unfold Jd.w Ww.w
  dsimp only
  rw [if_neg (by simp)]
  by_cases c2:l[(a+b) / 2] < x
  ·rw [if_pos (by simpa using c2)]
   refine ⟨by constructor <;> omega,hK _ ⟨(a+b) / 2+1,b,by simp,by omega,hb,fun k hk hk2=>?_,h2⟩ (by dsimp only; omega)⟩
   rcases Nat.lt_or_eq_of_le (Nat.lt_succ_iff.1 hk2) with q | rfl
   ·have:=hlt k _ hk hm q; omega
   ·exact c2
  ·rw [if_neg (by simpa using c2)]
   refine hK _ ⟨a,(a+b) / 2,rfl,by omega,by omega,h1,fun k hk hk2=>?_⟩ (by dsimp only; omega)
   rcases Nat.lt_or_eq_of_le hk2 with q | rfl
   ·have:=hlt _ k hm hk q; omega
   ·exact c2
 ·rw [if_neg c]
  have hab2:a = b:=by omega
  subst hab2
  by_cases c2:a < l.length
  ·rw [if_pos (by omega)]
   refine ⟨by omega,l[a],by rw [Int.toNat_natCast]; exact List.getElem?_eq_getElem c2,?_⟩
   have hc:l.contains x = decide (l[a] = x):=by
    by_cases e:l[a] = x
    ·rw [decide_eq_true e,List.contains_iff_mem.2 (by rw [← e]; exact List.getElem_mem c2)]
    ·rw [decide_eq_false e,Bool.eq_false_iff]
     intro q
     obtain ⟨k,hk,hk2⟩:=List.getElem_of_mem (List.contains_iff_mem.1 q)
     rcases Nat.lt_trichotomy k a with z | z | z
     ·have:=h1 k hk z; omega
     ·subst z; exact e hk2
     ·have:=hlt a k c2 hk z; have:=h2 a c2 (Nat.le_refl _); omega
   by_cases e:l[a] = x
   ·rw [if_pos e]; have:=h a; rw [hc,decide_eq_true e] at this; exact this
   ·rw [if_neg e]
    unfold Xr.w
    dsimp only
    rw [if_neg (by simp)]
    have:=h a; rw [hc,decide_eq_false e] at this; exact this
  ·rw [if_neg (by omega)]
   have hc:l.contains x = false:=by
    rw [Bool.eq_false_iff]
    intro q
    obtain ⟨k,hk,hk2⟩:=List.getElem_of_mem (List.contains_iff_mem.1 q)
    have:=h1 k hk (by omega); omega
   have:=h a; rw [hc] at this; exact this
end Go.Proofs.YtpkhmfedaaoalaaGreatDoor
namespace Go.Proofs.YtpkhmfedaaoalaaGreatDoor
open Go Go.Proofs.YtpkhmfedaaoalaaGreatDoor.AM Fo
def begB (x:Ze):Bool:=decide (x.Kind = 2) && Zpa x.Ch
theorem begins_w (x:Ze) {Q:Bool→Prop} (h:Q (begB x)):Wv.w x Q:=by
 unfold Wv.w
 unfold begB at h
 split
 ·rename_i e; unfold strings_IndexByte.w; simpa [e,Zpa] using h
 ·rename_i e; simpa [e] using h
def Xs:List Ze→Int→List Int
 | [],_=>[]
 | x :: l,i=>(if begB x then [i] else [])++Xs l (i+1)
theorem Ws:∀ (a b:List Ze) (i:Int),Xs (a++b) i = Xs a i++Xs b (i+a.length)
 | [],b,i=>by simp [Xs]
 | x :: a,b,i=>by
  simp only [List.cons_append,Xs,List.append_assoc,Ws a b,List.length_cons]
  congr 3
  simp; omega
theorem V1a:∀ (l:List Ze) (i:Int),(Xs l i).length≤l.length
 | [],_=>Nat.le_refl _
 | x :: l,i=>by
  have:=V1a l (i+1)
  unfold Xs; split <;> simp <;> omega
def flowsP (l:List Ze):List Int×Int:=if (treeP l).2 = 0 then (Xs l 0,0) else ([],(treeP l).2)
theorem Flows_w (l:List Ze) (hl:l.length≤1000000) {Q:List Int×Int→Prop} (h:Q (flowsP l)):K7.w l Q:=by
 unfold K7.w
 unfold flowsP at h
 refine Tree_w l hl ?_
 by_cases c:(treeP l).2 = 0
 ·rw [if_pos c] at h ⊢
  refine wfor (fun s=>s.2) (fun n=>(Xs (l.take n) 0,(n:Int))) l.length (fun _=>True) (fun _ _=>rfl) rfl trivial ?_ ?_
  ·intro n hn _ K hK
   dsimp only
   rw [if_pos (by omega)]
   refine ⟨by omega,l[n],W7 l hn,begins_w _ ?_⟩
   have hle:=V1a (l.take n) 0
   rw [List.length_take] at hle
   have:=hK trivial
   rw [List.take_add_one,List.getElem?_eq_getElem hn,Ws] at this
   simp only [Option.toList_some,Xs,List.append_nil,List.length_take,Nat.min_eq_left (Nat.le_of_lt hn),Int.zero_add] at this
   by_cases e:begB l[n] = true
   ·rw [if_pos e]
    rw [if_pos e] at this
    refine ⟨by simp; omega,V8 (by omega) (by omega),?_⟩
    simpa using this
   ·rw [if_neg e]
    rw [if_neg e] at this
    refine ⟨V8 (by omega) (by omega),?_⟩
    simpa using this
  ·intro _ K
   dsimp only
   rw [if_neg (by omega),List.take_length]; exact h
 ·rw [if_neg c] at h ⊢; exact h
theorem Zca {α:Type} {body:(α→Prop)→Prop} {k:α→Prop} (P:α→Prop) (h1:∀ M:α→Prop,(∀ z,P z→M z)→body M) (h2:∀ z,P z→k z):wcut body k:=h1 k h2
def ownL:List Ze→Int→Int→Int→List (Int×Ze)
 | [],_,_,_=>[]
 | x :: l,d,a,i=>
  if x.Kind = 2 then (if a = 0∧x.Ch≠108 then [(i,x)] else [])++ownL l (d+1) (if 0 < a∨x.Ch = 110∨x.Ch = 108 then a+1 else a) (i+1)
  else if x.Kind = 3 then (if d - 1 = 0 then [] else if 0 < a then ownL l (d - 1) (a - 1) (i+1) else (i,x) :: ownL l (d - 1) a (i+1))
  else (if a = 0 then [(i,x)] else [])++ownL l d a (i+1)
theorem own_w {σ:Type} (Y:(Int×Ze)→σ→(Bool→σ→Prop)→Prop) (f:σ→Int×Ze→σ) (l:List Ze) (hl:l.length≤1000000) (Inv:Nat→σ→Prop) (hup:∀ n s,Inv n s→Inv (n+1) s)
  (hY:∀ (i:Nat) (x:Ze) (s:σ),l[i]? = some x→Inv i s→Inv (i+1) (f s ((i:Int),x))∧∀ K:Bool→σ→Prop,K true (f s ((i:Int),x))→Y ((i:Int),x) s K)
  (p:Nat) (hp:p < l.length) (s0:σ) (h0:Inv (p+1) s0) {Q:σ→Prop} (h:(∀ s,s = (ownL (l.drop (p+1)) 1 0 ((p:Int)+1)).foldl f s0→Inv l.length s→Q s)):W5.w Y (p:Int) l s0 Q:=by
 unfold W5.w
 refine ⟨by constructor <;> omega,?_⟩
 obtain ⟨G,hG⟩:∃ G,G = (ownL (l.drop (p+1)) 1 0 ((p:Int)+1)).foldl f s0:=⟨_,rfl⟩
 rw [← hG] at h
 have hmono:∀ a b s,a≤b→Inv a s→Inv b s:=by
  intro a b s hab hs
  induction hab with
  | refl=>exact hs
  | step _ ih=>exact hup _ _ ih
 refine Zib (fun z=>∃ (i:Nat) (s:σ) (d a:Int),z = (s,d,a,(i:Int))∧i≤l.length∧Inv i s∧1≤d∧d≤i+1∧0≤a∧a≤i∧(ownL (l.drop i) d a (i:Int)).foldl f s = G) (fun z=>(l.length - z.2.2.2).toNat)
  ⟨p+1,s0,1,0,by simp,hp,h0,by omega,by omega,by omega,by omega,by simpa using hG.symm⟩ ?_
 rintro _ ⟨i,s,d,a,rfl,hi,hI,hd,hd2,ha,ha2,he⟩ K hK
 dsimp only
 by_cases hlt:i < l.length
 ·rw [if_pos (by omega)]
  unfold wcut
  dsimp only
  have hx:l[i]? = some l[i]:=List.getElem?_eq_getElem hlt
  obtain ⟨hI2,hYx⟩:=hY i l[i] s hx hI
  have hI3:=hup _ _ hI
  rw [List.drop_eq_getElem_cons hlt] at he
  unfold ownL at he
  generalize l[i] = x at he hYx hI2 hx
  have nx:∀ (s':σ) (d' a':Int),Inv (i+1) s'→1≤d'→d'≤d+1→0≤a'→a'≤a+1→(ownL (l.drop (i+1)) d' a' ((i:Int)+1)).foldl f s' = G→(I64 ((i:Int)+1))∧K (s',d',a',(i:Int)+1):=
   fun s' d' a' q1 q2 q3 q4 q5 q6=>⟨by constructor <;> omega,hK _ ⟨i+1,s',d',a',by simp,hlt,q1,q2,by simp; omega,q4,by simp; omega,by simpa using q6⟩ (by simp; omega)⟩
  have rest:∀ oth:Bool,oth = decide (x.Ch = 110∨x.Ch = 108)→(if x.Kind = 2 then (I64 (d+1)) ∧
      (if a = 0 then
        if x.Ch = 108 then
         (if 0 < a then (I64 (a+1))∧(I64 ((i:Int)+1))∧K (s,d+1,a+1,(i:Int)+1) else if oth = true then (I64 (a+1))∧(I64 ((i:Int)+1))∧K (s,d+1,a+1,(i:Int)+1) else (I64 ((i:Int)+1))∧K (s,d+1,a,(i:Int)+1))
        else Y ((i:Int),x) s (fun r1 s5=>if (!r1) = true then Q s5 else
         (if 0 < a then (I64 (a+1))∧(I64 ((i:Int)+1))∧K (s5,d+1,a+1,(i:Int)+1) else if oth = true then (I64 (a+1))∧(I64 ((i:Int)+1))∧K (s5,d+1,a+1,(i:Int)+1) else (I64 ((i:Int)+1))∧K (s5,d+1,a,(i:Int)+1)))
       else (if 0 < a then (I64 (a+1))∧(I64 ((i:Int)+1))∧K (s,d+1,a+1,(i:Int)+1) else if oth = true then (I64 (a+1))∧(I64 ((i:Int)+1))∧K (s,d+1,a+1,(i:Int)+1) else (I64 ((i:Int)+1))∧K (s,d+1,a,(i:Int)+1)))
     else if x.Kind = 3 then (I64 (d - 1))∧(if d - 1 = 0 then Q s else if 0 < a then (I64 (a - 1))∧(I64 ((i:Int)+1))∧K (s,d - 1,a - 1,(i:Int)+1)
       else Y ((i:Int),x) s (fun r2 s7=>if (!r2) = true then Q s7 else (I64 ((i:Int)+1))∧K (s7,d - 1,a,(i:Int)+1)))
     else if a = 0 then Y ((i:Int),x) s (fun r3 s8=>if (!r3) = true then Q s8 else (I64 ((i:Int)+1))∧K (s8,d,a,(i:Int)+1)) else (I64 ((i:Int)+1))∧K (s,d,a,(i:Int)+1)):=by
   rintro oth rfl
   by_cases k2:x.Kind = 2
   ·rw [if_pos k2] at he ⊢
    refine ⟨by constructor <;> omega,?_⟩
    rw [List.foldl_append] at he
    have tail:∀ s',Inv (i+1) s'→List.foldl f s' (ownL (l.drop (i+1)) (d+1) (if 0 < a∨x.Ch = 110∨x.Ch = 108 then a+1 else a) ((i:Int)+1)) = G →
      (if 0 < a then (I64 (a+1))∧(I64 ((i:Int)+1))∧K (s',d+1,a+1,(i:Int)+1) else if decide (x.Ch = 110∨x.Ch = 108) = true then (I64 (a+1))∧(I64 ((i:Int)+1))∧K (s',d+1,a+1,(i:Int)+1) else (I64 ((i:Int)+1))∧K (s',d+1,a,(i:Int)+1)):=by
     intro s' hs' he'
     by_cases c1:0 < a
     ·rw [if_pos c1]
      rw [if_pos (.inl c1)] at he'
      exact ⟨by constructor <;> omega,nx s' _ _ hs' (by omega) (by omega) (by omega) (by omega) he'⟩
     ·rw [if_neg c1]
      by_cases c2:x.Ch = 110∨x.Ch = 108
      ·rw [if_pos (by simpa using c2)]
       rw [if_pos (.inr c2)] at he'
       exact ⟨by constructor <;> omega,nx s' _ _ hs' (by omega) (by omega) (by omega) (by omega) he'⟩
      ·rw [if_neg (by simpa using c2)]
       rw [if_neg (fun q=>q.elim c1 c2)] at he'
       exact nx s' _ _ hs' (by omega) (by omega) (by omega) (by omega) he'
    by_cases c0:a = 0
    ·rw [if_pos c0]
     by_cases c1:x.Ch = 108
     ·rw [if_pos c1]
      rw [if_neg (fun q=>q.2 c1)] at he
      exact tail s hI3 he
     ·rw [if_neg c1]
      rw [if_pos ⟨c0,c1⟩] at he
      refine hYx _ ?_
      rw [if_neg (by simp)]
      exact tail _ hI2 he
    ·rw [if_neg c0]
     rw [if_neg (fun q=>c0 q.1)] at he
     exact tail s hI3 he
   ·rw [if_neg k2] at he ⊢
    by_cases k3:x.Kind = 3
    ·rw [if_pos k3] at he ⊢
     refine ⟨by constructor <;> omega,?_⟩
     by_cases c1:d - 1 = 0
     ·rw [if_pos c1] at he ⊢
      exact h s he (hmono _ _ _ hi hI)
     ·rw [if_neg c1] at he ⊢
      by_cases c2:0 < a
      ·rw [if_pos c2] at he ⊢
       exact ⟨by constructor <;> omega,nx s _ _ hI3 (by omega) (by omega) (by omega) (by omega) he⟩
      ·rw [if_neg c2] at he ⊢
       refine hYx _ ?_
       rw [if_neg (by simp)]
       exact nx _ _ _ hI2 (by omega) (by omega) (by omega) (by omega) he
    ·rw [if_neg k3] at he ⊢
     rw [List.foldl_append] at he
     by_cases c0:a = 0
     ·rw [if_pos c0]
      rw [if_pos c0] at he
      refine hYx _ ?_
      rw [if_neg (by simp)]
      exact nx _ _ _ hI2 (by omega) (by omega) (by omega) (by omega) he
     ·rw [if_neg c0]
      rw [if_neg c0] at he
      exact nx _ _ _ hI3 (by omega) (by omega) (by omega) (by omega) he
  refine ⟨by omega,x,by rw [Int.toNat_natCast]; exact hx,?_⟩
  by_cases c:x.Ch = 110
  ·rw [if_pos c]
   exact rest true (by simp [c])
  ·rw [if_neg c]
   exact rest (decide (x.Ch = 108)) (by simp [c])
 ·rw [if_neg (by omega)]
  have:i = l.length:=by omega
  subst this
  rw [List.drop_length] at he
  exact h s he hI
abbrev IS:=List Zh×List Int×Int
def Jda (m:Zg) (pts:List Int) (fr:Int):List Int→Int→List Zh
 | [],_=>[]
 | c :: cs,i=>((if pts.contains i then [⟨3,wAt m 45,0,0,fr+i⟩] else [])++[⟨1,wAt m c.toNat,0,0,fr+i⟩])++Jda m pts fr cs (i+1)
def Wn (m:Zg) (s:IS):List Zh:=s.1++Jda m (Ywa m.Pats (Yg s.2.1)) s.2.2 s.2.1 0
def letB (x:Ze):Bool:=decide (x.Kind = 1) && isL x.Ch
def V7 (m:Zg) (z:Int×Ze):List Zh:=
 if z.2.Kind = 1∧z.2.Ch = 32 then [⟨2,wAt m 32,m.Stretch,m.Shrink,z.1⟩]
 else if z.2.Kind = 1 then [⟨1,wAt m z.2.Ch.toNat,0,0,z.1⟩]
 else if z.2.Kind = 2∧z.2.Ch = 110 then [⟨4,wAt m 46,0,0,z.1⟩] else []
def Jv (m:Zg) (s:IS) (z:Int×Ze):IS:=
 let s':IS:=if letB z.2 = false∨z.1≠s.2.2+s.2.1.length then (Wn m s,[],z.1) else s
 if letB z.2 then (s'.1,s'.2.1++[z.2.Ch],s'.2.2) else (s'.1++V7 m z,s'.2.1,s'.2.2)
theorem wordI_append (m:Zg) (pts:List Int) (fr:Int):∀ (a b:List Int) (i:Int),Jda m pts fr (a++b) i = Jda m pts fr a i++Jda m pts fr b (i+a.length)
 | [],b,i=>by simp [Jda]
 | c :: a,b,i=>by
  simp only [List.cons_append,Jda,List.append_assoc,wordI_append m pts fr a b,List.length_cons]
  have:i+1+(a.length:Int) = i+((a.length+1:Nat):Int):=by omega
  rw [this]
theorem wordI_le (m:Zg) (pts:List Int) (fr:Int):∀ (a:List Int) (i:Int),(Jda m pts fr a i).length≤2 * a.length
 | [],_=>Nat.le_refl _
 | c :: a,i=>by
  have:=wordI_le m pts fr a (i+1)
  unfold Jda; split <;> simp <;> omega
theorem spell_w (m:Zg) (hk:MetOk m) (out:List Zh) (word:List Int) (fr:Int) (h1:out.length≤10000000) (h2:word.length≤1000000) (h3:0≤fr∧fr≤10000000) (hw:∀ c∈word,0≤c∧c≤127)
  {Q:Unit→Zg→List Zh→List Int→Int→Prop} (h:Q () m (Wn m (out,word,fr)) [] fr):Yq.w m out word fr Q:=by
 have hm:=hk.w
 unfold Yq.w
 refine ⟨hm,Ywa m.Pats (Yg word),points_w _ _ ⟨hk.p,hk.s⟩ (by rw [Wu]; exact h2) rfl,?_⟩
 unfold Wn at h
 dsimp only at h
 have hs:=points_sorted m.Pats (Yg word)
 have hpl:(Ywa m.Pats (Yg word)).length≤word.length:=by
  unfold Ywa
  rw [List.length_map]
  have:=List.length_filter_le (Y6a (Zwa m.Pats (Yg word)) (Yg word)) (List.range (Zwa m.Pats (Yg word)).size)
  have h4:=figures_le m.Pats (Yg word)
  rw [Wu] at h4
  rw [List.length_range] at this
  omega
 generalize Ywa m.Pats (Yg word) = pts at h hs hpl
 refine wfor (fun s=>s.2.2) (fun n=>(out++Jda m pts fr (word.take n) 0,word,(n:Int))) word.length (fun _=>True) (fun _ _=>rfl) (by simp [Jda]) trivial ?_ ?_
 ·intro n hn _ K hK
  dsimp only
  rw [if_pos (by omega)]
  refine ⟨by omega,word[n],W7 word hn,?_⟩
  have hle:=wordI_le m pts fr (word.take n) 0
  rw [List.length_take] at hle
  have hc:=hw _ (List.getElem_mem hn)
  have:=hK trivial
  rw [List.take_add_one,List.getElem?_eq_getElem hn,wordI_append] at this
  simp only [Option.toList_some,Jda,List.append_nil,List.length_take,Nat.min_eq_left (Nat.le_of_lt hn),Int.zero_add] at this
  unfold wcut
  dsimp only
  refine search_w pts (by omega) hs (n:Int) (fun j=>?_)
  dsimp only
  have e45:=X0a hm (show 45 < 128 by omega)
  have ec:=X0a hm (show word[n].toNat < 128 by omega)
  by_cases e:pts.contains (n:Int) = true
  ·rw [if_pos e]
   rw [if_pos e] at this
   refine ⟨_,e45,by constructor <;> omega,by simp; omega,hc.1,by omega,_,ec,by constructor <;> omega,by simp; omega,by constructor <;> omega,?_⟩
   simpa using this
  ·rw [if_neg e]
   rw [if_neg e] at this
   refine ⟨hc.1,by omega,_,ec,by constructor <;> omega,by simp; omega,by constructor <;> omega,?_⟩
   simpa using this
 ·intro _ K
  dsimp only
  rw [if_neg (by omega),List.take_length]; exact h
structure TInv (n:Nat) (s:IS):Prop where
 o:s.1.length+2 * s.2.1.length≤2 * n
 f:0≤s.2.2∧s.2.2≤n
 w:∀ c∈s.2.1,isL c = true
theorem isL_le {c:Int} (h:isL c = true):0≤c∧c≤127:=by
 unfold isL at h
 simp only [Bool.or_eq_true,decide_eq_true_eq] at h; omega
theorem TInv.up {n:Nat} {s:IS} (H:TInv n s):TInv (n+1) s:=⟨by have:=H.o; omega,by have:=H.f; omega,H.w⟩
theorem Yib (m:Zg) (s:IS):(Wn m s).length≤s.1.length+2 * s.2.1.length:=by
 unfold Wn
 have:=wordI_le m (Ywa m.Pats (Yg s.2.1)) s.2.2 s.2.1 0
 simp; omega
theorem TInv.take {n:Nat} {s:IS} (H:TInv n s) (m:Zg) (x:Ze):TInv (n+1) (Jv m s ((n:Int),x)):=by
 unfold Jv
 dsimp only
 have hs:=Yib m s
 have ho:=H.o
 have hf:=H.f
 have hi:(V7 m ((n:Int),x)).length≤1:=by unfold V7; split <;> (try split) <;> (try split) <;> simp
 have key:∀ s':IS,s'.1.length+2 * s'.2.1.length≤2 * n→(0≤s'.2.2∧s'.2.2≤n)→(∀ c∈s'.2.1,isL c = true)→TInv (n+1) (if letB x = true then (s'.1,s'.2.1++[x.Ch],s'.2.2) else (s'.1++V7 m ((n:Int),x),s'.2.1,s'.2.2)):=by
  intro s' a b c
  split
  ·rename_i hl
   refine ⟨by simp; omega,by dsimp only; omega,fun y hy=>?_⟩
   rcases List.mem_append.1 hy with hy | hy
   ·exact c y hy
   ·simp at hy; subst hy
    unfold letB at hl; simp only [Bool.and_eq_true] at hl; exact hl.2
  ·exact ⟨by simp; omega,by dsimp only; omega,c⟩
 refine key (if letB x = false∨(n:Int)≠s.2.2+s.2.1.length then (Wn m s,[],(n:Int)) else s) ?_ ?_ ?_
 ·split
  ·simp; omega
  ·exact ho
 ·split
  ·dsimp only; omega
  ·exact hf
 ·split
  ·simp
  ·exact H.w
theorem take_w2 (m:Zg) (hk:MetOk m) (n:Nat) (hn:n≤1000000) (x:Ze) (s:IS) (H:TInv n s) (hx:x.Kind = 1→0≤x.Ch∧x.Ch≤127)
  {Q:Unit→Zg→List Zh→List Int→Int→Prop} (h:Q () m (Jv m s ((n:Int),x)).1 (Jv m s ((n:Int),x)).2.1 (Jv m s ((n:Int),x)).2.2):Xa.w (n:Int) x m s.1 s.2.1 s.2.2 Q:=by
 have hm:=hk.w
 obtain ⟨out,word,fr⟩:=s
 have ho:=H.o
 have hf:=H.f
 dsimp only at ho hf ⊢
 unfold Xa.w
 have word127:∀ c∈word,0≤c∧c≤127:=fun c hc=>isL_le (H.w c hc)
 have hsl:=Yib m (out,word,fr)
 dsimp only at hsl
 refine Zca (P:=fun b=>b = letB x) (fun M hM=>?_) ?_
 ·by_cases k1:x.Kind = 1
  ·rw [if_pos k1]
   have:=hx k1
   exact Letter_w ⟨by omega,by omega⟩ (hM _ (by simp [letB,k1]))
  ·rw [if_neg k1]; exact hM _ (by simp [letB,k1])
 rintro _ rfl
 refine Zca (P:=fun z=>z = (((if letB x = false∨(n:Int)≠fr+word.length then (Wn m (out,word,fr),[],(n:Int)) else (out,word,fr):IS)).1,((if letB x = false∨(n:Int)≠fr+word.length then (Wn m (out,word,fr),[],(n:Int)) else (out,word,fr):IS)).2.1,m,((if letB x = false∨(n:Int)≠fr+word.length then (Wn m (out,word,fr),[],(n:Int)) else (out,word,fr):IS)).2.2)) (fun M hM=>?_) ?_
 ·refine Zca (P:=fun c=>c = decide (letB x = false∨(n:Int)≠fr+word.length)) (fun M3 hM3=>?_) ?_
  ·cases hb:letB x with
   | false=>rw [if_pos (by simp)]; exact hM3 _ (by simp [hb])
   | true=>
    rw [if_neg (by simp)]
    refine ⟨hm,by constructor <;> omega,hM3 _ (by simp [hb])⟩
  ·rintro _ rfl
   try dsimp only
   by_cases c:letB x = false∨(n:Int)≠fr+word.length
   ·rw [if_pos (by simpa using c)]
    rw [if_pos c] at hM
    exact spell_w m hk out word fr (by omega) (by omega) (by omega) word127 ⟨hm,hM _ rfl⟩
   ·rw [if_neg (by simpa using c)]
    rw [if_neg c] at hM
    exact hM _ rfl
 rintro _ rfl
 unfold Jv at h
 dsimp only at h ⊢
 have hs:∀ s':IS,s' = (if letB x = false∨(n:Int)≠fr+word.length then (Wn m (out,word,fr),[],(n:Int)) else (out,word,fr))→s'.1.length+2 * s'.2.1.length≤2 * n:=by
  rintro _ rfl
  split
  ·simp; omega
  ·exact ho
 have hs:=hs _ rfl
 generalize ((if letB x = false∨(n:Int)≠fr+word.length then (Wn m (out,word,fr),[],(n:Int)) else (out,word,fr):IS)) = s' at h hs ⊢
 obtain ⟨out',word',fr'⟩:=s'
 dsimp only at h hs ⊢
 by_cases hl:letB x = true
 ·rw [if_pos hl] at h ⊢
  exact ⟨hm,by simp; omega,h⟩
 rw [if_neg hl] at h ⊢
 unfold V7 at h
 dsimp only at h
 refine Zca (P:=fun b=>b = decide (x.Kind = 1∧x.Ch = 32)) (fun M hM=>?_) ?_
 ·split
  ·rename_i k1; exact hM _ (by simp [k1])
  ·rename_i k1; exact hM _ (by simp [k1])
 rintro _ rfl
 by_cases k2:x.Kind = 1∧x.Ch = 32
 ·rw [if_pos (by simpa using k2)]
  rw [if_pos k2] at h
  exact ⟨hm,_,X0a hm (by omega),by simp; omega,h⟩
 rw [if_neg (by simpa using k2)]
 rw [if_neg k2] at h
 by_cases k1:x.Kind = 1
 ·rw [if_pos k1] at h ⊢
  have:=hx k1
  refine ⟨this.1,by omega,hm,_,X0a hm (by omega),?_⟩
  unfold Yk.w
  exact ⟨by simp; omega,h⟩
 rw [if_neg k1] at h ⊢
 refine Zca (P:=fun b=>b = decide (x.Kind = 2∧x.Ch = 110)) (fun M hM=>?_) ?_
 ·split
  ·rename_i k1; exact hM _ (by simp [k1])
  ·rename_i k1; exact hM _ (by simp [k1])
 rintro _ rfl
 by_cases k3:x.Kind = 2∧x.Ch = 110
 ·rw [if_pos (by simpa using k3)]
  rw [if_pos k3] at h
  refine ⟨hm,_,X0a hm (by omega),?_⟩
  unfold Yk.w
  exact ⟨by simp; omega,h⟩
 ·rw [if_neg (by simpa using k3)]
  rw [if_neg k3,List.append_nil] at h; exact h
def itemsP (m:Zg) (l:List Ze) (p:Nat):List Zh:=Wn m ((ownL (l.drop (p+1)) 1 0 ((p:Int)+1)).foldl (Jv m) ([],[],0))
def tok0:Ze:=⟨0,0,0⟩
def ofP (l:List Ze) (m:Zg) (at_:Int):List Zh×Int:=
 if (treeP l).2 = 0 then
  if V8a m = 0 then
   if at_ < 0∨(l.length:Int)≤at_ then ([],1)
   else if begB (l.getD at_.toNat tok0) then (itemsP m l at_.toNat,0) else ([],1)
  else ([],V8a m)
 else ([],(treeP l).2)
theorem Yob:∀ (F:Fo),(∀ x∈toks F,Byte x.Ch)→plF F→ok F→∀ x∈toks F,x.Kind = 1→0≤x.Ch∧x.Ch≤127
 | .nil,_,_,_,x,h,_=>by cases h
 | .text y cs r,hb,hp,hk,x,h,hx=>by
  have hb2:∀ c∈(y :: cs).map (·.Ch),Byte c:=by
   intro c hc
   obtain ⟨z,hz,rfl⟩:=List.mem_map.1 hc
   exact hb z (by simp only [toks]; rw [← List.cons_append]; exact List.mem_append_left _ hz)
  have hin:x∈y :: cs∨x∈toks r:=by
   simp only [toks] at h
   rw [← List.cons_append] at h
   exact List.mem_append.1 h
  rcases hin with hin | hin
  ·have h1:=hp.1
   unfold str at h1
   rw [Vma hb2] at h1
   have:=List.any_eq_false.1 h1 x.Ch (List.mem_map.2 ⟨x,hin,rfl⟩)
   simp only [oddT,Bool.or_eq_true,decide_eq_true_eq,not_or] at this
   have hb3:=hb x h
   exact ⟨hb3.1,by omega⟩
  ·exact Yob r (fun z hz=>hb z (by simp [toks,hz])) hp.2 hk.2.2.2 x hin hx
 | .node o k c r,hb,hp,hk,x,h,hx=>by
  simp only [toks] at h
  rcases List.mem_cons.1 h with rfl | h
  ·have:=hk.1; omega
  ·rcases List.mem_append.1 h with h | h
   ·exact Yob k (fun z hz=>hb z (by simp [toks,hz])) hp.2.1 hk.2.2.2.1 x h hx
   ·rcases List.mem_cons.1 h with rfl | h
    ·have:=hk.2.1; omega
    ·exact Yob r (fun z hz=>hb z (by simp [toks,hz])) hp.2.2 hk.2.2.2.2 x h hx
theorem Of_w (l:List Ze) (hl:l.length≤1000) (hb:∀ x∈l,Byte x.Ch) (m:Zg) (hm:MetOk m) (at_:Int) {Q:List Zh×Int→Prop} (h:Q (ofP l m at_)):Jn.w l m at_ Q:=by
 unfold Jn.w
 refine ⟨hm.w,Tree_w l (by omega) ?_⟩
 unfold ofP at h
 by_cases c1:(treeP l).2 = 0
 ·rw [if_pos c1] at h ⊢
  obtain ⟨F,hF⟩:=tree_ok c1
  refine checkM_w m hm ?_
  by_cases c2:V8a m = 0
  ·rw [if_pos c2] at h ⊢
   by_cases c3:at_ < 0
   ·rw [if_pos c3]; rw [if_pos (.inl c3)] at h; exact h
   rw [if_neg c3]
   by_cases c4:(l.length:Int)≤at_
   ·rw [if_pos c4]; rw [if_pos (.inr c4)] at h; exact h
   rw [if_neg c4]
   rw [if_neg (fun q=>q.elim c3 c4)] at h
   obtain ⟨p,rfl⟩:∃ p:Nat,at_ = (p:Int):=⟨at_.toNat,by omega⟩
   have hp:p < l.length:=by omega
   rw [Int.toNat_natCast] at h
   have hg:l.getD p tok0 = l[p]:=by rw [List.getD,List.getElem?_eq_getElem hp]; rfl
   rw [hg] at h
   refine ⟨by omega,l[p],W7 l hp,begins_w _ ?_⟩
   cases e:begB l[p] with
   | false=>rw [if_pos (by simp)]; rw [e] at h; exact h
   | true=>
    rw [if_neg (by simp)]
    rw [e,if_pos rfl] at h
    unfold Xaa.w
    dsimp only
    have hch:=Yob F (by rw [hF.t]; exact hb) hF.p hF.k
    rw [hF.t] at hch
    refine own_w _ (fun (s:(Zg×List Zh×List Int×Int)×Nat) z=>((m,Jv m s.1.2 z),0)) l (by omega) (fun i s=>s.1.1 = m∧s.2 = 0∧TInv i s.1.2) (fun n s hs=>⟨hs.1,hs.2.1,hs.2.2.up⟩) (fun i x s hx hs=>?_) p hp _ ⟨rfl,rfl,⟨by simp,by dsimp only; omega,by simp⟩⟩ (fun s hs hI=>?_)
    ·obtain ⟨⟨m',s'⟩,n'⟩:=s
     obtain ⟨rfl,rfl,hI⟩:=hs
     dsimp only at hI ⊢
     have hil:=(List.getElem?_eq_some_iff.1 hx).1
     refine ⟨⟨rfl,rfl,hI.take m' x⟩,fun K hK=>⟨rfl,?_⟩⟩
     exact take_w2 m' hm i (by omega) x s' hI (hch x (List.mem_of_getElem? hx)) hK
    ·have hfold:∀ (L:List (Int×Ze)) (s0:IS),L.foldl (fun (s:(Zg×List Zh×List Int×Int)×Nat) z=>((m,Jv m s.1.2 z),0)) ((m,s0),0) = ((m,L.foldl (Jv m) s0),0):=by
      intro L
      induction L with
      | nil=>intro s0; rfl
      | cons z L ih=>intro s0; simp only [List.foldl_cons]; exact ih _
     rw [hfold] at hs
     subst hs
     dsimp only at hI ⊢
     have hT:=hI.2.2
     have ho:=hT.o
     have hf:=hT.f
     refine spell_w m hm _ _ _ (by omega) (by omega) ⟨hf.1,Int.le_trans hf.2 (by omega)⟩ (fun c hc=>isL_le (hT.w c hc)) ⟨hm.w,?_⟩
     exact h
  ·rw [if_neg c2] at h ⊢; exact h
 ·rw [if_neg c1] at h ⊢; exact h
end Go.Proofs.YtpkhmfedaaoalaaGreatDoor
