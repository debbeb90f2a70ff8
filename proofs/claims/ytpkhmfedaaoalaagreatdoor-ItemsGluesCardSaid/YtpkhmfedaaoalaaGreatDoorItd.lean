/- ItemsGlues: a part of its proof (packed by a program). -/
import Derived.Test.YtpkhmfedaaoalaaGreatDoorItc
set_option linter.all false
namespace Go.Proofs.YtpkhmfedaaoalaaGreatDoor
open Go Go.Proofs.YtpkhmfedaaoalaaGreatDoor.AM Fo
abbrev Row:=List Zc
def open0:Zc:=⟨0,0,0,0,false,0,0⟩
def top (r:Row):Zc:=r.getLast?.getD open0
def hasN (r:Row) (k:Int):Nat:=r.countP fun x=>decide (x.kind = k)
def Km (r:Row) (p:Zc→Bool):Nat→Option Nat
 | 0=>none
 | n+1=>match r[n]? with
  | some x=>if p x then some n else Km r p n
  | none=>Km r p n
def isK (s:ByteArray) (x:Zc):Bool:=decide (0≤Y2b s x.kind)
def sFlow:ByteArray:=⟨#[49,50,51,112,105]⟩
def sNote:ByteArray:=⟨#[110]⟩
def sTab:ByteArray:=⟨#[116]⟩
theorem Zxb {r:Row} {p:Zc→Bool}:∀ {n i:Nat},Km r p n = some i→i < n∧∃ x,r[i]? = some x∧p x = true
 | 0,_,h=>by cases h
 | n+1,i,h=>by
  unfold Km at h
  split at h
  ·rename_i x hx
   split at h
   ·rename_i hp; cases h; exact ⟨Nat.lt_succ_self _,x,hx,hp⟩
   ·obtain ⟨a,b⟩:=Zxb h; exact ⟨by omega,b⟩
  ·obtain ⟨a,b⟩:=Zxb h; exact ⟨by omega,b⟩
theorem lastIx_succ {r:Row} (p:Zc→Bool) {n:Nat} (h:n < r.length):Km r p (n+1) = if p r[n] then some n else Km r p n:=by
 show (match r[n]? with | some x=>_ | none=>_) = _
 rw [List.getElem?_eq_getElem h]
theorem lastIx_last {r:Row} {p:Zc→Bool} {x:Zc} (hp:p x = true):Km (r++[x]) p (r++[x]).length = some r.length:=by
 rw [List.length_append]
 show Km (r++[x]) p (r.length+1) = _
 unfold Km
 simp [hp]
theorem down_w (r:Row) (hl:r.length≤3000000) (s:ByteArray) {F:Int→Zc→Prop} {N:Prop} (h1:∀ i v,Km r (isK s) r.length = some i→r[i]? = some v→F i v) (h2:Km r (isK s) r.length = none→N) :
  X2 (σ:=Int) (fun a next=>if 0≤a then (0≤a)∧∃ v:Zc,r[a.toNat]? = some v∧strings_IndexByte.w s v.kind (fun q=>if 0≤q then F a v else (I64 (a - 1))∧next (a - 1)) else N) ((r.length:Int) - 1):=by
 refine Zib (fun a=>∃ n:Nat,n≤r.length∧a = (n:Int) - 1∧Km r (isK s) r.length = Km r (isK s) n) (fun a=>(a+1).toNat) ⟨r.length,Nat.le_refl _,rfl,rfl⟩ ?_
 rintro _ ⟨n,hn,rfl,he⟩ K hK
 try dsimp only
 cases n with
 | zero=>rw [if_neg (by omega)]; exact h2 he
 | succ n=>
  have e:((n+1:Nat):Int) - 1 = (n:Int):=by omega
  rw [e,if_pos (by omega)]
  have hg:=W7 r hn
  refine ⟨by omega,r[n],hg,?_⟩
  rw [lastIx_succ _ hn] at he
  unfold strings_IndexByte.w
  dsimp only
  by_cases hp:0≤Y2b s r[n].kind
  ·rw [if_pos hp]
   rw [if_pos (show isK s r[n] = true from by simp [isK,hp])] at he
   exact h1 n _ he (by rw [Int.toNat_natCast] at hg; exact hg)
  ·rw [if_neg hp]
   rw [if_neg (show ¬ isK s r[n] = true from by simp [isK,hp])] at he
   refine ⟨V8 (by omega) (by omega),hK _ ⟨n,by omega,rfl,he⟩ (by omega)⟩
theorem down2_w (r:Row) (hl:r.length≤3000000) (s:ByteArray) {F:Row×Int→Zc→Prop} {N:Row×Int→Prop} (h1:∀ i v,Km r (isK s) r.length = some i→r[i]? = some v→F (r,(i:Int)) v) (h2:Km r (isK s) r.length = none→∀ i,N (r,i)) :
  X2 (σ:=Row×Int) (fun z next=>if 0≤z.2 then (0≤z.2)∧∃ v:Zc,z.1[z.2.toNat]? = some v∧strings_IndexByte.w s v.kind (fun q=>if 0≤q then F z v else (I64 (z.2 - 1))∧next (z.1,z.2 - 1)) else N z) (r,(r.length:Int) - 1):=by
 refine Zib (fun z=>∃ n:Nat,n≤r.length∧z = (r,(n:Int) - 1)∧Km r (isK s) r.length = Km r (isK s) n) (fun z=>(z.2+1).toNat) ⟨r.length,Nat.le_refl _,rfl,rfl⟩ ?_
 rintro _ ⟨n,hn,rfl,he⟩ K hK
 try dsimp only
 cases n with
 | zero=>rw [if_neg (by omega)]; exact h2 he _
 | succ n=>
  have e:((n+1:Nat):Int) - 1 = (n:Int):=by omega
  rw [e,if_pos (by omega)]
  have hg:=W7 r hn
  refine ⟨by omega,r[n],hg,?_⟩
  rw [lastIx_succ _ hn] at he
  unfold strings_IndexByte.w
  dsimp only
  by_cases hp:0≤Y2b s r[n].kind
  ·rw [if_pos hp]
   rw [if_pos (show isK s r[n] = true from by simp [isK,hp])] at he
   exact h1 n _ he (by rw [Int.toNat_natCast] at hg; exact hg)
  ·rw [if_neg hp]
   rw [if_neg (show ¬ isK s r[n] = true from by simp [isK,hp])] at he
   refine ⟨V8 (by omega) (by omega),hK _ ⟨n,by omega,rfl,he⟩ (by dsimp only; omega)⟩
theorem Vza (r:Row) (hl:r.length≤3000000) (k:Int) {Q:Int→Prop} (h:Q (hasN r k)):Zs.w r k Q:=by
 unfold Zs.w
 refine wfor (fun s=>s.2) (fun n=>(((hasN (r.take n) k:Nat):Int),(n:Int))) r.length (fun _=>True) (fun _ _=>rfl) rfl trivial ?_ ?_
 ·intro n hn _ K hK
  dsimp only
  rw [if_pos (by omega)]
  refine ⟨by omega,r[n],W7 r hn,?_⟩
  have hc:hasN (r.take n) k≤n:=Nat.le_trans List.countP_le_length (by simp; omega)
  have et:r.take (n+1) = r.take n++[r[n]]:=by rw [List.take_add_one,List.getElem?_eq_getElem hn]; rfl
  have:=hK trivial
  have e2:hasN (r.take (n+1)) k = hasN (r.take n) k+if r[n].kind = k then 1 else 0:=by
   rw [et]; unfold hasN; rw [List.countP_append,List.countP_singleton]; simp
  by_cases e:r[n].kind = k
  ·rw [if_pos e]
   rw [if_pos e] at e2
   rw [e2,Int.natCast_add,Int.natCast_add] at this
   exact ⟨V8 (by omega) (by omega),V8 (by omega) (by omega),this⟩
  ·rw [if_neg e]
   rw [if_neg e,Nat.add_zero] at e2
   rw [e2,Int.natCast_add] at this
   exact ⟨V8 (by omega) (by omega),this⟩
 ·intro _ K
  dsimp only
  rw [if_neg (by omega),List.take_length]; exact h
def Vqa (a b:Int):Bool:=Vd.any fun p=>decide (p.1 = ⟨a,b⟩)
theorem aget_any (m:PMap) (hm:m.all (fun p=>decide (p.2 = 1)) = true) (x:Xb):(aget m x).getD 0 = if (m.any fun p=>decide (p.1 = x)) then 1 else 0:=by
 induction m with
 | nil=>rfl
 | cons p m ih=>
  simp only [List.all_cons,Bool.and_eq_true,decide_eq_true_eq] at hm
  unfold aget
  by_cases e:x = p.1
  ·subst e; simp [hm.1]
  ·rw [if_neg e,ih hm.2]
   have e':¬ p.1 = x:=fun q=>e q.symm
   rw [List.any_cons,decide_eq_false e',Bool.false_or]
theorem pairsM_one:Vd.all (fun p=>decide (p.2 = 1)) = true:=by decide +kernel
theorem aget_pair (a b:Int):(aget Vd ⟨a,b⟩).getD 0 = 0↔Vqa a b = false:=by
 rw [aget_any Vd pairsM_one]
 unfold Vqa
 cases (Vd.any fun p=>decide (p.1 = (⟨a,b⟩:Xb))) <;> simp
def pairK:List (Int×List Int):=[(0,[49,50,51,112,108,116,107]),(49,[46,101,115,110]),(50,[46,101,115,110]),(51,[46,101,115,110]),(112,[46,101,115,110]),(99,[46,101,115,110]),(110,[46,101,115,110]),(101,[46,101,115,110]),(115,[46,101,115,110]),(105,[46,101,115,110,108]),(108,[105]),(116,[114]),(114,[99])]
theorem pairsM_keys:Vd.all (fun p=>pairK.any fun q=>decide (q.1 = p.1.in_) && q.2.contains p.1.kind) = true:=by decide +kernel
theorem K5a {a b:Int} (h:Vqa a b = true):∃ q∈pairK,q.1 = a∧b∈q.2:=by
 unfold Vqa at h
 obtain ⟨p,hp,he⟩:=List.any_eq_true.1 h
 have:=List.all_eq_true.1 pairsM_keys p hp
 obtain ⟨q,hq,hk⟩:=List.any_eq_true.1 this
 have he':p.1 = ⟨a,b⟩:=by simpa using he
 rw [he'] at hk
 exact ⟨q,hq,by simpa using hk⟩
def noteB (r:Row):Bool:=match Km r (isK sFlow) r.length with | some i=>decide ((r.getD i open0).note = 0) | none=>false
def mayB (r:Row) (k:Int):Bool:=
 Vqa (top r).kind k && !(decide ((top r).kind = 105) && (top r).past && !decide (k = 108)) &&
 (if k = 101∨k = 115 then decide (hasN r k = 0) else if k = 99 then decide ((top r).kids < 8) else if k = 110 then decide (hasN r 110 = 0) && decide (hasN r 99 = 0) && noteB r else true)
def Yya (r:Row) (i:Nat) (f:Zc→Zc):Row:=r.set i (f (r.getD i open0))
def bump (r:Row):Row:=Yya r (r.length - 1) fun x=>{ x with kids:=x.kids+1 }
def Yxa (r:Row) (k:Int):Row:=
 if k = 110 then (match Km r (isK sFlow) r.length with | some i=>Yya r i fun x=>{ x with note:=x.note+1 } | none=>r)
 else if k = 108 then Yya r (r.length - 1) fun x=>{ x with past:=true } else r
def Yqb (r:Row) (t:List Za) (k a:Int):Row×List Za×Int:=
 let r1:=bump (Yxa r k)++[⟨k,t.length,0,0,false,0,0⟩]
 (r1,t++[⟨k,⟨#[]⟩,a,1⟩],if 32 < r1.length then 5 else if 8 < hasN r1 108 then 5 else if 2000 < t.length+1 then 4 else 0)
def textB (r:Row) (t:List Za) (s:ByteArray) (a:Int):Row×List Za×Int:=
 let r1:=bump r; let e:Int:=if 2000 < t.length+1 then 4 else 0
 match Km r1 (isK sNote) r1.length with
 | some i=>(Yya r1 i fun x=>{ x with text:=x.text+s.size },t++[⟨46,s,a,1⟩],if 60 < (r1.getD i open0).text+s.size then 4 else e)
 | none=>(r1,t++[⟨46,s,a,1⟩],e)
def wholeB (o:Zc) (r:Row):Option Row:=
 if o.kind = 108∨o.kind = 116 then (if 0 < o.kids then some r else none)
 else if o.kind = 114 then (match Km r (isK sTab) r.length with
  | some i=>if (r.getD i open0).cols = 0 then (if 0 < o.kids then some (Yya r i fun x=>{ x with cols:=o.kids }) else none) else if 0 < o.kids∧o.kids = (r.getD i open0).cols then some r else none
  | none=>none)
 else some r
def shutB (r:Row) (t:List Za):Option (Row×List Za×Int):=
 if r = [] then none else match wholeB (top r) (r.take (r.length - 1)) with
  | some r1=>some (r1,t.set (top r).at_.toNat (let v:=t.getD (top r).at_.toNat ⟨0,⟨#[]⟩,0,0⟩; ⟨v.Kind,v.Text,v.At,(t.length:Int) - (top r).at_⟩),0)
  | none=>none
def Jva (a b:Int):Int:=if a = 2∨b = 2 then 2 else if a = 5∨b = 5 then 5 else if a = 4∨b = 4 then 4 else 0
abbrev BS:=Row×List Za×Int
def Xob (s:BS) (x:Zm):Option BS:=
 let f:=fun (z:BS)=>(⟨z.1,z.2.1,Jva s.2.2 z.2.2⟩:BS)
 if x.Kind = 1 then (if mayB s.1 46 then some (f (textB s.1 s.2.1 x.Text x.At)) else none)
 else if x.Kind = 2 then (if mayB s.1 x.Name then some (f (Yqb s.1 s.2.1 x.Name x.At)) else none)
 else (shutB s.1 s.2.1).map f
def runB (l:List Zm) (s:BS):Option BS:=l.foldlM Xob s
def Xka (F:Fo):Int:=if ((Zl F).any fun x=>!Ynb x) then 2 else match runB (evs F) ([],[],0) with | some s=>s.2.2 | none=>2
def wors (w:Int) (z:BS):BS:=⟨z.1,z.2.1,Jva w z.2.2⟩
theorem bstep_T (s:BS) (x:ByteArray):Xob s (evT x) = if mayB s.1 46 = true then some (wors s.2.2 (textB s.1 s.2.1 x 0)) else none:=rfl
theorem bstep_O (s:BS) (k:Int):Xob s (evO k) = if mayB s.1 k = true then some (wors s.2.2 (Yqb s.1 s.2.1 k 0)) else none:=rfl
theorem bstep_C (s:BS):Xob s evC = (shutB s.1 s.2.1).map (wors s.2.2):=rfl
def wfF:Int→Fo→Prop
 | _,nil=>True
 | p,text x cs r=>Vqa p 46 = true∧wfF p r
 | p,node o k c r=>Vqa p o.Ch = true∧wfF o.Ch k∧wfF p r
def kinds (r:Row):List Int:=r.map (·.kind)
def topK (l:List Int):Int:=l.getLast?.getD 0
theorem top_kind (r:Row):(top r).kind = topK (kinds r):=by
 unfold top topK kinds
 rw [List.getLast?_map]
 cases r.getLast? <;> rfl
theorem V6 {r:Row} {i:Nat} {f:Zc→Zc} (hf:∀ x,(f x).kind = x.kind):kinds (Yya r i f) = kinds r:=by
 unfold kinds Yya
 apply List.ext_getElem?
 intro j
 rw [List.getElem?_map,List.getElem?_map,List.getElem?_set]
 split
 ·rename_i e; subst e
  split
  ·rename_i h; simp [List.getD,h,hf]
  ·rename_i h; simp [List.getElem?_eq_none (Nat.le_of_not_lt h)]
 ·rfl
theorem J5 (r:Row):kinds (bump r) = kinds r:=V6 fun _=>rfl
theorem Z7a (r:Row) (k:Int):kinds (Yxa r k) = kinds r:=by
 unfold Yxa
 split
 ·split
  ·exact V6 fun _=>rfl
  ·rfl
 ·split
  ·exact V6 fun _=>rfl
  ·rfl
theorem kinds_open (r:Row) (t:List Za) (k a:Int):kinds (Yqb r t k a).1 = kinds r++[k]:=by
 have:=J5 (Yxa r k)
 rw [Z7a] at this
 unfold Yqb
 simp only [kinds,List.map_append] at this ⊢
 rw [this]; rfl
theorem kinds_text (r:Row) (t:List Za) (s:ByteArray) (a:Int):kinds (textB r t s a).1 = kinds r:=by
 unfold textB
 dsimp only
 split
 ·exact (V6 (f:=fun x=>{ x with text:=x.text+s.size }) fun _=>rfl).trans (J5 r)
 ·exact J5 r
theorem kinds_whole {o:Zc} {r r':Row} (h:wholeB o r = some r'):kinds r' = kinds r:=by
 unfold wholeB at h
 split at h
 ·split at h
  ·cases h; rfl
  ·cases h
 ·split at h
  ·split at h
   ·split at h
    ·split at h
     ·cases h; exact V6 fun _=>rfl
     ·cases h
    ·split at h
     ·cases h; rfl
     ·cases h
   ·cases h
  ·cases h; rfl
theorem kinds_shut {r:Row} {t:List Za} {s:BS} (h:shutB r t = some s):∃ k,kinds r = kinds s.1++[k]:=by
 unfold shutB at h
 split at h
 ·cases h
 ·rename_i hne
  split at h
  ·rename_i r1 hw
   cases h
   have:=kinds_whole hw
   obtain ⟨r0,x,rfl⟩:∃ r0 x,r = r0++[x]:=⟨r.dropLast,r.getLast hne,(List.dropLast_concat_getLast hne).symm⟩
   refine ⟨x.kind,?_⟩
   dsimp only
   rw [this]; simp [kinds]
  ·cases h
theorem Ymb (x:Zm) (l:List Zm) (s:BS):runB (x :: l) s = (Xob s x).bind (runB l):=by
 unfold runB; rw [List.foldlM_cons]; rfl
theorem Zrb (a b:List Zm) (s:BS):runB (a++b) s = (runB a s).bind (runB b):=by
 unfold runB; rw [List.foldlM_append]; rfl
theorem may_pair {r:Row} {k:Int} (h:mayB r k = true):Vqa (topK (kinds r)) k = true:=by
 unfold mayB at h
 simp only [Bool.and_eq_true] at h
 rw [← top_kind]; exact h.1.1
theorem run_wf:∀ (F:Fo) {s s':BS},runB (evs F) s = some s'→wfF (topK (kinds s.1)) F∧kinds s'.1 = kinds s.1
 | nil,s,s',h=>by cases h; exact ⟨trivial,rfl⟩
 | text x cs r,s,s',h=>by
  simp only [evs] at h
  rw [Ymb] at h
  cases e:Xob s (evT (str (x :: cs))) with
  | none=>rw [e] at h; cases h
  | some s1=>
   rw [e] at h
   rw [bstep_T] at e
   by_cases hm:mayB s.1 46 = true
   ·rw [if_pos hm] at e
    cases e
    obtain ⟨h1,h2⟩:=run_wf r h
    dsimp only [wors] at h1 h2
    rw [kinds_text] at h1 h2
    exact ⟨⟨may_pair hm,h1⟩,h2⟩
   ·rw [if_neg hm] at e; cases e
 | node o k c r,s,s',h=>by
  simp only [evs] at h
  rw [Ymb] at h
  cases e:Xob s (evO o.Ch) with
  | none=>rw [e] at h; cases h
  | some s1=>
   rw [e] at h
   simp only [Option.bind_some] at h
   rw [Zrb] at h
   rw [bstep_O] at e
   by_cases hm:mayB s.1 o.Ch = true
   ·rw [if_pos hm] at e
    cases e
    cases e3:runB (evs k) (wors s.2.2 (Yqb s.1 s.2.1 o.Ch 0)) with
    | none=>rw [e3] at h; cases h
    | some s2=>
     rw [e3] at h
     simp only [Option.bind_some] at h
     rw [Ymb] at h
     obtain ⟨h1,h2⟩:=run_wf k e3
     dsimp only [wors] at h1 h2
     rw [kinds_open] at h1 h2
     cases e4:Xob s2 evC with
     | none=>rw [e4] at h; cases h
     | some s3=>
      rw [e4] at h
      simp only [Option.bind_some] at h
      rw [bstep_C,Option.map_eq_some_iff] at e4
      obtain ⟨z,hz,rfl⟩:=e4
      obtain ⟨q,hq⟩:=kinds_shut hz
      rw [h2] at hq
      obtain ⟨hq1,hq2⟩:=List.append_inj' hq rfl
      obtain ⟨h3,h4⟩:=run_wf r h
      dsimp only [wors] at h3 h4
      rw [← hq1] at h3 h4
      refine ⟨⟨may_pair hm,?_,h3⟩,h4⟩
      simpa [topK] using h1
   ·rw [if_neg hm] at e; cases e
theorem checkF_ok {F:Fo} (h:Xka F = 0):plF F∧wfF 0 F:=by
 unfold Xka at h
 split at h
 ·cases h
 ·rename_i hp
  refine ⟨plF_of F (by simpa using hp),?_⟩
  split at h
  ·rename_i s hs; exact (run_wf F hs).1
  ·cases h
end Go.Proofs.YtpkhmfedaaoalaaGreatDoor
