/- ItemsGlues: a part of its proof (packed by a program). -/
import Derived.Test.YtpkhmfedaaoalaaGreatDoorOwn
import Derived.Test.YtpkhmfedaaoalaaGreatDoorPln
set_option linter.all false
namespace Go.Proofs.YtpkhmfedaaoalaaGreatDoor.AM
open Go
def LR {α β:Type} (R:α→β→Prop):List α→List β→Prop
 | [],[]=>True
 | x :: xs,y :: ys=>R x y∧LR R xs ys
 | _,_=>False
section
variable {α β:Type} {R R':α→β→Prop}
theorem LR.mono (k:∀ x y,R x y→R' x y):∀ {xs:List α} {ys:List β},LR R xs ys→LR R' xs ys
 | [],[],_=>trivial
 | _ :: _,_ :: _,h=>⟨k _ _ h.1,h.2.mono k⟩
theorem LR.len:∀ {xs:List α} {ys:List β},LR R xs ys→xs.length = ys.length
 | [],[],_=>rfl
 | _ :: _,_ :: _,h=>congrArg (·+1) h.2.len
theorem LR.get:∀ {xs:List α} {ys:List β} (i:Nat) {x:α},LR R xs ys→xs[i]? = some x→∃ y,ys[i]? = some y∧R x y
 | _ :: _,y :: _,0,x,h,e=>by simp at e; subst e; exact ⟨y,by simp,h.1⟩
 | _ :: _,_ :: _,i+1,x,h,e=>by
  obtain ⟨y,a,b⟩:=h.2.get i (by simpa using e)
  exact ⟨y,by simpa using a,b⟩
theorem LR.take:∀ {xs:List α} {ys:List β} (i:Nat),LR R xs ys→LR R (xs.take i) (ys.take i)
 | [],[],i,_=>by simp [LR]
 | _ :: _,_ :: _,0,_=>by simp [LR]
 | _ :: _,_ :: _,i+1,h=>by simp only [List.take_succ_cons]; exact ⟨h.1,h.2.take i⟩
theorem LR.drop:∀ {xs:List α} {ys:List β} (i:Nat),LR R xs ys→LR R (xs.drop i) (ys.drop i)
 | [],[],i,_=>by simp [LR]
 | _ :: _,_ :: _,0,h=>h
 | _ :: _,_ :: _,i+1,h=>by simp only [List.drop_succ_cons]; exact h.2.drop i
theorem LR.app:∀ {xs xs':List α} {ys ys':List β},LR R xs ys→LR R xs' ys'→LR R (xs++xs') (ys++ys')
 | [],_,[],_,_,k=>k
 | _ :: _,_,_ :: _,_,h,k=>⟨h.1,h.2.app k⟩
theorem LR.set:∀ {xs:List α} {ys:List β} (i:Nat) {x:α} {y:β},LR R xs ys→R x y→LR R (xs.set i x) (ys.set i y)
 | [],[],_,_,_,_,_=>by simp [LR]
 | _ :: _,_ :: _,0,_,_,h,k=>⟨k,h.2⟩
 | _ :: _,_ :: _,i+1,_,_,h,k=>⟨h.1,h.2.set i k⟩
theorem LR.map {γ:Type} (f:γ→α) (g:γ→β) (k:∀ z,R (f z) (g z)):∀ (l:List γ),LR R (l.map f) (l.map g)
 | []=>trivial
 | z :: l=>⟨k z,LR.map f g k l⟩
theorem LR.rep {x:α} {y:β} (k:R x y):∀ n,LR R (List.replicate n x) (List.replicate n y)
 | 0=>trivial
 | n+1=>⟨k,LR.rep k n⟩
end
def cR (r:List Nat) (x y:AV):Prop:=match x with
 | .osl b sz o n=>∃ b',r[b]? = some b'∧y = .osl b' sz o n
 | .optr b sz i c=>∃ b',r[b]? = some b'∧y = .optr b' sz i c
 | .agg _ | .tup _=>False
 | x=>y = x
def vR (r:List Nat) (x y:AV):Prop:=match x with
 | .agg cs=>∃ cs',y = .agg cs'∧LR (cR r) cs cs'
 | x=>cR r x y
def uR (r:List Nat) (x y:AV):Prop:=match x with
 | .tup vs=>∃ vs',y = .tup vs'∧LR (vR r) vs vs'
 | x=>vR r x y
def Ext (r r':List Nat):Prop:=∃ l,r' = r++l
theorem Ext.refl (r:List Nat):Ext r r:=⟨[],by simp⟩
theorem Ext.trans {a b c:List Nat} (h:Ext a b) (k:Ext b c):Ext a c:=by
 obtain ⟨l,rfl⟩:=h; obtain ⟨m,rfl⟩:=k; exact ⟨l++m,by simp⟩
theorem Ext.get {r r':List Nat} (h:Ext r r') {b b':Nat} (e:r[b]? = some b'):r'[b]? = some b':=by
 obtain ⟨l,rfl⟩:=h
 rw [List.getElem?_append_left (List.getElem?_eq_some_iff.1 e).1]; exact e
theorem cR.ext {r r':List Nat} (h:Ext r r') {x y:AV} (k:cR r x y):cR r' x y:=by
 cases x <;> simp only [cR] at k ⊢ <;> try exact k
 all_goals (obtain ⟨b',e,q⟩:=k; exact ⟨b',h.get e,q⟩)
theorem vR.ext {r r':List Nat} (h:Ext r r') {x y:AV} (k:vR r x y):vR r' x y:=by
 cases x <;> simp only [vR] at k ⊢ <;> try exact k.ext h
 obtain ⟨cs,e,q⟩:=k; exact ⟨cs,e,q.mono fun _ _=>cR.ext h⟩
theorem uR.ext {r r':List Nat} (h:Ext r r') {x y:AV} (k:uR r x y):uR r' x y:=by
 cases x <;> simp only [uR] at k ⊢ <;> try exact k.ext h
 obtain ⟨cs,e,q⟩:=k; exact ⟨cs,e,q.mono fun _ _=>vR.ext h⟩
theorem cR.v {r:List Nat} {x y:AV} (k:cR r x y):vR r x y:=by
 cases x <;> first | exact k | (simp only [cR] at k)
theorem vR.u {r:List Nat} {x y:AV} (k:vR r x y):uR r x y:=by
 cases x <;> first | exact k | (simp only [vR,cR] at k)
def Kba:AV→Bool
 | .osl .. | .optr .. | .agg _ | .tup _=>false
 | _=>true
def Vja:AV→Bool
 | .agg cs=>cs.all Kba
 | x=>Kba x
def closed:AV→Bool
 | .tup vs=>vs.all Vja
 | x=>Vja x
theorem Wja {r:List Nat} {x y:AV} (h:Kba x = true):cR r x y↔y = x:=by
 cases x <;> simp [Kba] at h <;> simp [cR]
theorem LR.eqs {α:Type} {R:α→α→Prop} (p:α→Bool) (k:∀ x y,p x = true→(R x y↔y = x)):∀ {xs ys:List α},xs.all p = true→(LR R xs ys↔ys = xs)
 | [],[],_=>by simp [LR]
 | [],_ :: _,_=>by simp [LR]
 | _ :: _,[],_=>by simp [LR]
 | x :: xs,y :: ys,h=>by
  simp only [List.all_cons,Bool.and_eq_true] at h
  simp only [LR,k x y h.1,LR.eqs p k h.2,List.cons.injEq]
theorem Kza {r:List Nat} {x y:AV} (h:Vja x = true):vR r x y↔y = x:=by
 cases x with
 | agg cs=>
  simp only [Vja] at h
  simp only [vR]
  constructor
  ·rintro ⟨cs',rfl,q⟩; rw [(LR.eqs Kba (fun _ _=>Wja) h).1 q]
  ·rintro rfl; exact ⟨cs,rfl,(LR.eqs Kba (fun _ _=>Wja) h).2 rfl⟩
 | _=>simp only [vR]; exact Wja h
theorem Yea {r:List Nat} {x y:AV} (h:closed x = true):uR r x y↔y = x:=by
 cases x with
 | tup cs=>
  simp only [closed] at h
  simp only [uR]
  constructor
  ·rintro ⟨cs',rfl,q⟩; rw [(LR.eqs Vja (fun _ _=>Kza) h).1 q]
  ·rintro rfl; exact ⟨cs,rfl,(LR.eqs Vja (fun _ _=>Kza) h).2 rfl⟩
 | _=>simp only [uR]; exact Kza h
theorem closeds_eq {r:List Nat} {xs ys:List AV} (h:xs.all closed = true):LR (uR r) xs ys↔ys = xs:=LR.eqs closed (fun _ _=>Yea) h
theorem val_eq {r:List Nat} {v:Value} {y:AV}:uR r (.val v) y↔y = .val v:=Yea rfl
theorem LR.vals (r:List Nat) (l:List Value):LR (cR r) (l.map .val) (l.map .val):=LR.map AV.val AV.val (fun _=>(Wja rfl).2 rfl) l
section
variable {β:Type}
def frcN (n:Nat) (k:Nat→β):β:=match n with
 | 0=>k 0
 | m+1=>k (m+1)
theorem frcN_eq (n:Nat) (k:Nat→β):frcN n k = k n:=by cases n <;> rfl
def frcI (n:Int) (k:Int→β):β:=match n with
 | .ofNat m=>frcN m fun m=>k (.ofNat m)
 | .negSucc m=>frcN m fun m=>k (.negSucc m)
theorem frcI_eq (n:Int) (k:Int→β):frcI n k = k n:=by cases n <;> simp [frcI,frcN_eq]
def frcB:List UInt8→(List UInt8→β)→β
 | [],k=>k []
 | x :: l,k=>frcN x.toNat fun n=>frcB l fun l=>k (UInt8.ofNat n :: l)
theorem frcB_eq:∀ (l:List UInt8) (k:List UInt8→β),frcB l k = k l
 | [],k=>rfl
 | x :: l,k=>by simp [frcB,frcN_eq,frcB_eq l]
def frcU (v:Value) (k:Value→β):β:=match v with
 | .int t n=>frcI n fun n=>k (.int t n)
 | .bool true=>k (.bool true)
 | .bool false=>k (.bool false)
 | .string s=>frcB s.data.toList fun l=>k (.string ⟨l.toArray⟩)
 | v=>k v
theorem frcU_eq (v:Value) (k:Value→β):frcU v k = k v:=by
 unfold frcU
 split <;> simp [frcI_eq,frcB_eq]
def frcC (x:AV) (k:AV→β):β:=match x with
 | .val v=>frcU v fun v=>k (.val v)
 | .osl b sz o n=>frcN b fun b=>frcN o fun o=>frcN n fun n=>k (.osl b sz o n)
 | .optr b sz i c=>frcN b fun b=>frcN i fun i=>frcN c fun c=>k (.optr b sz i c)
 | x=>k x
theorem frcC_eq (x:AV) (k:AV→β):frcC x k = k x:=by
 unfold frcC
 split <;> simp [frcN_eq,frcU_eq]
noncomputable def frcG {α:Type} (l:List α) (k:List α→β):β:=List.rec (motive:=fun _=>(List α→β)→β) (fun k=>k []) (fun x _ ih k=>ih fun l=>k (x :: l)) l k
theorem frcG_eq {α:Type}:∀ (l:List α) (k:List α→β),frcG l k = k l
 | [],k=>rfl
 | x :: l,k=>by
  have:=frcG_eq l (fun l=>k (x :: l))
  simpa [frcG] using this
noncomputable def frcL {α:Type} (f:α→(α→β)→β) (l:List α) (k:List α→β):β:=List.rec (motive:=fun _=>(List α→β)→β) (fun k=>k []) (fun x _ ih k=>f x fun x=>ih fun l=>k (x :: l)) l k
theorem frcL_eq {α:Type} {f:α→(α→β)→β} (hf:∀ x k,f x k = k x):∀ (l:List α) (k:List α→β),frcL f l k = k l
 | [],k=>rfl
 | x :: l,k=>by
  have:=frcL_eq hf l (fun l=>k (x :: l))
  simpa [frcL,hf] using this
noncomputable def frcW (x:AV) (k:AV→β):β:=match x with
 | .val v=>k (.val v)
 | .osl b sz o n=>k (.osl b sz o n)
 | .optr b sz i c=>k (.optr b sz i c)
 | .agg cs=>frcG cs fun cs=>k (.agg cs)
 | .tup cs=>frcG cs fun cs=>k (.tup cs)
 | x=>k x
theorem frcW_eq (x:AV) (k:AV→β):frcW x k = k x:=by
 unfold frcW
 split <;> simp [frcG_eq]
noncomputable def frcA (x:AV) (k:AV→β):β:=match x with
 | .agg cs=>frcG cs fun cs=>k (.agg cs)
 | .tup cs=>frcG cs fun cs=>k (.tup cs)
 | x=>frcC x k
theorem frcA_eq (x:AV) (k:AV→β):frcA x k = k x:=by
 unfold frcA
 split <;> simp [frcG_eq,frcC_eq]
noncomputable def frcR (l:List (List AV)) (k:List (List AV)→β):β:=frcL frcG l k
theorem frcR_eq (l:List (List AV)) (k:List (List AV)→β):frcR l k = k l:=frcL_eq frcG_eq l k
noncomputable def frcF (p:Nat→Bool) (l:List (Nat×Ob)) (k:List (Nat×Ob)→β):β:=
 List.rec (motive:=fun _=>(List (Nat×Ob)→β)→β) (fun k=>k []) (fun x _ ih k=>cond (p x.1) (ih fun l=>k (x :: l)) (ih k)) l k
theorem frcF_eq (p:Nat→Bool):∀ (l:List (Nat×Ob)) (k:List (Nat×Ob)→β),frcF p l k = k (l.filter fun q=>p q.1)
 | [],_=>rfl
 | x :: l,k=>by
  have h1:=frcF_eq p l (fun l=>k (x :: l))
  have h2:=frcF_eq p l k
  simp only [frcF] at h1 h2 ⊢
  rw [List.filter_cons]
  cases e:p x.1 <;> simp [h1,h2]
noncomputable def frcS (l:List (Nat×Ob)) (b:Nat) (x:Ob) (k:List (Nat×Ob)→β):β:=
 List.rec (motive:=fun _=>(List (Nat×Ob)→β)→β) (fun k=>k []) (fun y l ih k=>cond (Nat.beq y.1 b) (k ((y.1,x) :: l)) (ih fun l=>k (y :: l))) l k
end
abbrev VH:=List (Nat×Ob)
def vget:VH→Nat→Option Ob
 | [],_=>none
 | (k,o) :: l,b=>if k == b then some o else vget l b
def vdel (l:VH) (b:Nat):VH:=l.filter fun p=>!(p.1 == b)
def vset:VH→Nat→Ob→VH
 | [],_,_=>[]
 | (k,o) :: l,b,x=>if k == b then (k,x) :: l else (k,o) :: vset l b x
theorem vget_del:∀ (l:VH) (b k:Nat),vget (vdel l b) k = if k = b then none else vget l k
 | [],b,k=>by simp [vdel,vget]
 | (j,o) :: l,b,k=>by
  have ih:=vget_del l b k
  simp only [vdel] at ih ⊢
  rw [List.filter_cons]
  by_cases h:j = b
  ·subst h
   simp only [beq_self_eq_true,Bool.not_true,Bool.false_eq_true,if_false,ih,vget,beq_iff_eq]
   by_cases h2:k = j
   ·simp [h2]
   ·simp [h2,Ne.symm h2]
  ·simp only [beq_iff_eq,h,decide_false,Bool.not_false,if_true,vget]
   rw [if_pos (by simp [h])]
   simp only [vget,beq_iff_eq]
   by_cases h2:j = k
   ·subst h2; simp [h]
   ·simp only [h2,if_false]; exact ih
theorem vget_set:∀ (l:VH) (b k:Nat) (x o:Ob),vget l b = some o→vget (vset l b x) k = if k = b then some x else vget l k
 | [],b,k,x,o,h=>by simp [vget] at h
 | (j,y) :: l,b,k,x,o,h=>by
  simp only [vget,beq_iff_eq] at h
  by_cases e:j = b
  ·subst e
   simp only [vset,beq_self_eq_true,if_true,vget,beq_iff_eq]
   by_cases h2:k = j
   ·simp [h2]
   ·simp [h2,Ne.symm h2]
  ·rw [if_neg e] at h
   simp only [vset,beq_iff_eq,e,if_false,vget]
   by_cases h2:j = k
   ·subst h2; simp [e]
   ·simp only [h2,if_false]; exact vget_set l b k x o h
theorem frcS_eq {β:Type}:∀ (l:VH) (b:Nat) (x:Ob) (k:VH→β),frcS l b x k = k (vset l b x)
 | [],_,_,_=>rfl
 | (j,o) :: l,b,x,k=>by
  have h:=frcS_eq l b x (fun l=>k ((j,o) :: l))
  simp only [frcS] at h ⊢
  simp only [vset]
  cases e:Nat.beq j b
  ·have:¬ j = b:=by intro q; subst q; simp at e
   simp [this,h]
  ·have:j = b:=Nat.eq_of_beq_eq_true e
   simp [this]
theorem nb_eq (a b:Nat):Nat.beq a b = (a == b):=by
 cases h:Nat.beq a b
 ·have:¬ a = b:=by intro q; subst q; simp at h
  simp [this]
 ·simp [Nat.eq_of_beq_eq_true h]
noncomputable def vgq (l:VH) (b:Nat):Option Ob:=List.rec (motive:=fun _=>Option Ob) none (fun p _ ih=>cond (Nat.beq p.1 b) (some p.2) ih) l
theorem vgq_eq:∀ (l:VH) (b:Nat),vgq l b = vget l b
 | [],_=>rfl
 | (j,o) :: l,b=>by
  have h:=vgq_eq l b
  simp only [vgq] at h ⊢
  simp only [vget]
  cases e:Nat.beq j b
  ·have:¬ j = b:=by intro q; subst q; simp at e
   simp [this,h]
  ·have:j = b:=Nat.eq_of_beq_eq_true e
   simp [this]
noncomputable def nthq {α:Type} (l:List α) (n:Nat):Option α:=
 List.rec (motive:=fun _=>Nat→Option α) (fun _=>none) (fun x _ ih n=>Nat.rec (motive:=fun _=>Option α) (some x) (fun m _=>ih m) n) l n
theorem nthq_eq {α:Type}:∀ (l:List α) (n:Nat),nthq l n = l[n]?
 | [],_=>rfl
 | _ :: _,0=>rfl
 | x :: l,n+1=>by
  have:=nthq_eq l n
  simpa [nthq] using this
def obR (r:List Nat) (o o':Ob):Prop:=o'.sz = o.sz∧o'.ty = o.ty∧LR (LR (cR r)) o.rows o'.rows
theorem obR.ext {r r':List Nat} (h:Ext r r') {o o':Ob} (k:obR r o o'):obR r' o o':=
 ⟨k.1,k.2.1,k.2.2.mono fun _ _ q=>q.mono fun _ _=>cR.ext h⟩
structure Rep (h0:Hp) (r:List Nat) (n:Nat) (l:VH) (h:Hp):Prop where
 sub:h0.sub h
 len:r.length = n
 at_:∀ b o,vget l b = some o→∃ b' o',r[b]? = some b'∧h0 b' = none∧h b' = some o'∧obR r o o'
 inj:∀ a b o o' c,vget l a = some o→vget l b = some o'→r[a]? = some c→r[b]? = some c→a = b
section
variable {h0 h:Hp} {r:List Nat} {n:Nat} {l:VH}
theorem Rep.nil (h:Hp):Rep h [] 0 [] h:=⟨Hp.sub.refl h,rfl,fun _ _ e=>(by cases e),fun _ _ _ _ _ e=>(by cases e)⟩
theorem Rep.get (R:Rep h0 r n l h) {b b':Nat} {o:Ob} (e:vget l b = some o) (k:r[b]? = some b'):h0 b' = none∧∃ o',h b' = some o'∧obR r o o':=by
 obtain ⟨c,o',a1,a2,a3,a4⟩:=R.at_ b o e
 rw [k] at a1; cases a1
 exact ⟨a2,o',a3,a4⟩
theorem Rep.less (R:Rep h0 r n l h) {l':VH} (k:∀ b o,vget l' b = some o→vget l b = some o):Rep h0 r n l' h:=
 ⟨R.sub,R.len,fun b o e=>R.at_ b o (k b o e),fun a b o o' c e1 e2=>R.inj a b o o' c (k _ _ e1) (k _ _ e2)⟩
theorem Rep.new (R:Rep h0 r n l h) {b:Nat} (hb:h b = none) {o o':Ob} (ho:obR r o o'):Ext r (r++[b])∧(r++[b])[n]? = some b∧Rep h0 (r++[b]) (n+1) ((n,o) :: l) (h.upd b o'):=by
 have hx:Ext r (r++[b]):=⟨[b],rfl⟩
 have hn:(r++[b])[n]? = some b:=by rw [← R.len]; simp
 have lt:∀ k o,vget l k = some o→n≠k∧∃ c,r[k]? = some c∧c≠b∧(r++[b])[k]? = some c:=fun k o e=>by
  obtain ⟨c,oc,a1,a2,a3,a4⟩:=R.at_ k o e
  have:=(List.getElem?_eq_some_iff.1 a1).1
  have hl:=R.len
  refine ⟨by omega,c,a1,?_,hx.get a1⟩
  rintro rfl; rw [hb] at a3; cases a3
 refine ⟨hx,hn,⟨R.sub.upd o' (R.sub.none hb),by simp [R.len],fun k x e=>?_,fun k m x y c e1 e2 c1 c2=>?_⟩⟩
 ·simp only [vget,beq_iff_eq] at e
  split at e
  ·rename_i q; subst q; cases e
   exact ⟨b,o',hn,R.sub.none hb,by simp,ho.ext hx⟩
  ·obtain ⟨c,oc,a1,a2,a3,a4⟩:=R.at_ k x e
   obtain ⟨_,c',d1,d2,d3⟩:=lt k x e
   rw [a1] at d1; cases d1
   exact ⟨c,oc,d3,a2,by rw [Hp.upd_ne _ _ d2]; exact a3,a4.ext hx⟩
 ·simp only [vget,beq_iff_eq] at e1 e2
  split at e1 <;> split at e2
  ·omega
  ·rename_i q1 _; subst q1; obtain ⟨_,c',d1,d2,d3⟩:=lt _ _ e2; rw [d3] at c2; rw [hn] at c1; cases c1; cases c2; exact absurd rfl d2
  ·rename_i _ q1; subst q1; obtain ⟨_,c',d1,d2,d3⟩:=lt _ _ e1; rw [d3] at c1; rw [hn] at c2; cases c1; cases c2; exact absurd rfl d2
  ·obtain ⟨_,p1,d1,_,d3⟩:=lt _ _ e1; obtain ⟨_,p2,f1,_,f3⟩:=lt _ _ e2
   rw [d3] at c1; rw [f3] at c2; cases c1; cases c2
   exact R.inj _ _ _ _ _ e1 e2 d1 f1
theorem Rep.upd (R:Rep h0 r n l h) {b b':Nat} {o x x':Ob} (e:vget l b = some o) (k:r[b]? = some b') (hx:obR r x x'):Rep h0 r n (vset l b x) (h.upd b' x'):=by
 obtain ⟨q1,o',q2,q3⟩:=R.get e k
 refine ⟨R.sub.upd x' q1,R.len,fun j y hy=>?_,fun i j y z c h1 h2=>?_⟩
 ·rw [vget_set _ _ _ _ _ e] at hy
  split at hy
  ·rename_i q; subst q; cases hy; exact ⟨b',x',k,q1,by simp,hx⟩
  ·rename_i hne
   obtain ⟨c,oc,a1,a2,a3,a4⟩:=R.at_ j y hy
   refine ⟨c,oc,a1,a2,?_,a4⟩
   rw [Hp.upd_ne]; exact a3
   rintro rfl; exact hne (R.inj _ _ _ _ _ hy e a1 k)
 ·rw [vget_set _ _ _ _ _ e] at h1 h2
  have f:∀ m w,(if m = b then some x else vget l m) = some w→∃ w',vget l m = some w':=fun m w hm=>by
   split at hm
   ·rename_i q; subst q; exact ⟨_,e⟩
   ·exact ⟨_,hm⟩
  obtain ⟨_,g1⟩:=f _ _ h1; obtain ⟨_,g2⟩:=f _ _ h2
  exact R.inj _ _ _ _ _ g1 g2
theorem Rep.del (R:Rep h0 r n l h) {b b':Nat} {o:Ob} (e:vget l b = some o) (k:r[b]? = some b'):Rep h0 r n (vdel l b) (h.del b'):=by
 obtain ⟨q1,o',q2,q3⟩:=R.get e k
 refine ⟨⟨fun j y hy=>?_,R.sub.r⟩,R.len,fun j y hy=>?_,fun i j y z c h1 h2=>?_⟩
 ·show (if j = b' then none else h j) = some y
  rw [if_neg]; exact R.sub j y hy
  rintro rfl; rw [q1] at hy; cases hy
 ·rw [vget_del] at hy
  split at hy
  ·cases hy
  rename_i hne
  obtain ⟨c,oc,a1,a2,a3,a4⟩:=R.at_ j y hy
  refine ⟨c,oc,a1,a2,?_,a4⟩
  show (if c = b' then none else h c) = some oc
  rw [if_neg]; exact a3
  rintro rfl; exact hne (R.inj _ _ _ _ _ hy e a1 k)
 ·rw [vget_del] at h1 h2
  split at h1 <;> split at h2 <;> first | (cases h1; done) | (cases h2; done) | exact R.inj _ _ _ _ _ h1 h2
end
section
variable {T:Tab} {r:List Nat} {ρv ρr:Operand→AV}
def lit:AV→Bool
 | .val _=>true
 | _=>false
theorem lit_u {x:AV} (h:lit x = true):uR r x x:=by
 cases x <;> simp [lit] at h
 exact val_eq.2 rfl
theorem apart_ok {ti:TI} {cs cs':List AV} {off:Nat} {z:AV} (h:LR (cR r) cs cs') (e:apart ti cs off = some z):∃ z',apart ti cs' off = some z'∧uR r z z':=by
 unfold apart at e ⊢
 split at e
 ·rename_i ha
  split at e <;> cases e
  rename_i hl
  refine ⟨.agg ((cs'.drop off).take ti.size),by simp [ha,← h.len,hl],vR.u ?_⟩
  simp only [vR]
  exact ⟨_,rfl,(h.drop off).take ti.size⟩
 ·rename_i ha
  obtain ⟨y,a,b⟩:=h.get off e
  exact ⟨y,by simp [ha,a],b.v.u⟩
theorem aeqs_ok:∀ (es:List (Nat×TK)) {xs xs' ys ys':List AV} {b:Bool},LR (cR r) xs xs'→LR (cR r) ys ys'→aeqs es xs ys = some b→aeqs es xs' ys' = some b
 | [],_,_,_,_,_,_,_,e=>e
 | (off,k) :: es,xs,xs',ys,ys',b,hx,hy,e=>by
  unfold aeqs at e
  split at e <;> try (cases e; done)
  all_goals
   rename_i e1 e2 e3
   obtain ⟨a1,p1,q1⟩:=hx.get _ e1
   obtain ⟨a2,p2,q2⟩:=hy.get _ e2
   simp only [cR] at q1 q2
   subst q1 q2
   simp only [aeqs,p1,p2,aeqs_ok es hx hy e3]
   exact e
theorem abin_ok {op:BinOp} {tk:TK} {x y x' y' z:AV} (hx:uR r x x') (hy:uR r y y') (e:abin op tk x y = some z):abin op tk x' y' = some z:=by
 cases x <;> simp only [uR,vR,cR] at hx
 case val v=>
  subst hx
  cases y <;> simp only [uR,vR,cR] at hy
  case osl=>unfold abin at e; split at e <;> first | (cases e; done) | simp_all
  case optr=>unfold abin at e; split at e <;> first | (cases e; done) | simp_all
  case agg=>unfold abin at e; split at e <;> first | (cases e; done) | simp_all
  case tup=>unfold abin at e; split at e <;> first | (cases e; done) | simp_all
  all_goals (subst hy; exact e)
 case osl=>
  obtain ⟨b',hb,rfl⟩:=hx
  cases y <;> simp only [uR,vR,cR] at hy
  case val u=>subst hy; unfold abin at e ⊢; split at e <;> simp_all
  all_goals (unfold abin at e; split at e <;> first | (cases e; done) | simp_all)
 case optr=>
  obtain ⟨b',hb,rfl⟩:=hx
  cases y <;> simp only [uR,vR,cR] at hy
  case val u=>subst hy; unfold abin at e ⊢; split at e <;> simp_all
  all_goals (unfold abin at e; split at e <;> first | (cases e; done) | simp_all)
 case agg=>unfold abin at e; split at e <;> first | (cases e; done) | simp_all
 case tup=>unfold abin at e; split at e <;> first | (cases e; done) | simp_all
 all_goals
  subst hx
  cases y <;> simp only [uR,vR,cR] at hy
  case osl=>unfold abin at e; split at e <;> first | (cases e; done) | simp_all
  case optr=>unfold abin at e; split at e <;> first | (cases e; done) | simp_all
  case agg=>unfold abin at e; split at e <;> first | (cases e; done) | simp_all
  case tup=>unfold abin at e; split at e <;> first | (cases e; done) | simp_all
  all_goals (subst hy; exact e)
theorem abin2_ok {op:BinOp} {ti:TI} {x y x' y' z:AV} (hx:uR r x x') (hy:uR r y y') (e:Y5a op ti x y = some z):Y5a op ti x' y' = some z:=by
 by_cases ha:∃ xs ys,x = .agg xs∧y = .agg ys
 ·obtain ⟨xs,ys,rfl,rfl⟩:=ha
  simp only [uR,vR] at hx hy
  obtain ⟨xs',rfl,hx⟩:=hx
  obtain ⟨ys',rfl,hy⟩:=hy
  simp only [Y5a] at e ⊢
  split at e <;> try (cases e; done)
  all_goals
   cases q:aeqs _ xs ys with
   | none=>rw [q] at e; cases e
   | some b=>rw [q] at e; rw [aeqs_ok _ hx hy q]; exact e
 ·have h1:Y5a op ti x y = abin op ti.kind x y:=by
   unfold Y5a
   split
   ·exact absurd ⟨_,_,rfl,rfl⟩ ha
   ·rfl
  have h2:Y5a op ti x' y' = abin op ti.kind x' y':=by
   unfold Y5a
   split
   ·rename_i xs ys
    exact absurd (show ∃ xs ys,x = .agg xs∧y = .agg ys by
     cases x <;> simp only [uR,vR,cR] at hx <;> try (cases hx; done)
     all_goals (try (obtain ⟨_,_,hx⟩:=hx; cases hx; done))
     all_goals (try (obtain ⟨_,hx,_⟩:=hx; cases hx; done))
     cases y <;> simp only [uR,vR,cR] at hy <;> try (cases hy; done)
     all_goals (try (obtain ⟨_,_,hy⟩:=hy; cases hy; done))
     all_goals (try (obtain ⟨_,hy,_⟩:=hy; cases hy; done))
     exact ⟨_,_,rfl,rfl⟩) ha
   ·rfl
  rw [h1] at e; rw [h2]; exact abin_ok hx hy e
theorem atIntR {x x':AV} {n:Int} (hx:uR r x x') (e:atInt x = some n):atInt x' = some n:=by
 cases x <;> simp only [uR,vR,cR] at hx <;> first | (cases e; done) | (subst hx; exact e)
theorem Kva {d n:Nat} {o:Option Operand} (hv:∀ o,uR r (ρv o) (ρr o)) (e:Vy d (o.map ρv) = some n):Vy d (o.map ρr) = some n:=by
 cases o with
 | none=>exact e
 | some o=>
  have hx:=hv o
  simp only [Option.map_some] at e ⊢
  generalize ρv o = x at *
  generalize ρr o = x' at *
  cases x <;> simp only [uR,vR,cR] at hx <;> first | (subst hx; exact e) | (unfold Vy at e; split at e <;> simp_all)
theorem K8a {x x':AV} (hx:uR r x x') (e:x.okCells = true):x'.okCells = true∧LR (cR r) x.cells x'.cells:=by
 cases x <;> simp only [uR,vR,cR] at hx
 case agg=>obtain ⟨cs,rfl,h⟩:=hx; exact ⟨rfl,h⟩
 case osl=>obtain ⟨b',h,rfl⟩:=hx; exact ⟨rfl,⟨b',h,rfl⟩,trivial⟩
 case optr=>obtain ⟨b',h,rfl⟩:=hx; exact ⟨rfl,⟨b',h,rfl⟩,trivial⟩
 case tup=>simp [AV.okCells,AV.one] at e
 all_goals (subst hx; exact ⟨e,(Wja rfl).2 rfl,trivial⟩)
theorem afill_ok (pl:Nat→Option (Nat×Nat)):∀ (ps:List (Nat×Operand)) {cs cs' zs:List AV},(∀ o,uR r (ρv o) (ρr o))→LR (cR r) cs cs'→Z8b pl cs (ps.map fun p=>(p.1,ρv p.2)) = some zs→∃ zs',Z8b pl cs' (ps.map fun p=>(p.1,ρr p.2)) = some zs'∧LR (cR r) zs zs'
 | [],cs,cs',zs,hv,h,e=>by simp [Z8b] at e; subst e; exact ⟨cs',rfl,h⟩
 | (i,o) :: ps,cs,cs',zs,hv,h,e=>by
  simp only [List.map_cons,Z8b] at e ⊢
  split at e
  ·cases e
  rename_i off size hp
  split at e <;> try (cases e; done)
  rename_i hc
  obtain ⟨q1,q2⟩:=K8a (hv o) hc.1
  rw [if_pos ⟨q1,by rw [← q2.len]; exact hc.2.1,by rw [← h.len]; exact hc.2.2⟩]
  exact afill_ok pl ps hv (((h.take off).app q2).app (h.drop (off+size))) e
theorem arows_ok {sz:Nat}:∀ (ps:List (Nat×Operand)) {cs cs' zs:List (List AV)},(∀ o,uR r (ρv o) (ρr o))→LR (LR (cR r)) cs cs'→Jqa sz cs (ps.map fun p=>(p.1,ρv p.2)) = some zs→∃ zs',Jqa sz cs' (ps.map fun p=>(p.1,ρr p.2)) = some zs'∧LR (LR (cR r)) zs zs'
 | [],cs,cs',zs,hv,h,e=>by simp [Jqa] at e; subst e; exact ⟨cs',rfl,h⟩
 | (i,o) :: ps,cs,cs',zs,hv,h,e=>by
  simp only [List.map_cons,Jqa] at e ⊢
  split at e <;> try (cases e; done)
  rename_i hc
  obtain ⟨q1,q2⟩:=K8a (hv o) hc.1
  rw [if_pos ⟨q1,by rw [← q2.len]; exact hc.2.1,by rw [← h.len]; exact hc.2.2⟩]
  exact arows_ok ps hv (h.set i q2) e
def byLit (o:Option AV):Option AV:=match o with
 | some z=>if lit z then some z else none
 | none=>none
theorem Wia {o:Option AV} {z:AV} (e:byLit o = some z):o = some z∧lit z = true:=by
 cases o with
 | none=>cases e
 | some y=>
  simp only [byLit] at e
  split at e <;> cases e
  exact ⟨rfl,by assumption⟩
def vcalm (T:Tab) (op:Op) (ρ:Operand→AV):Option AV:=
 match op with
 | .move x | .assign x=>some (ρ x)
 | .pick c a b=>match ρ c with
  | .val (.bool t)=>some (if t then ρ a else ρ b)
  | _=>none
 | .binOp op t x y _=>if Wba y then none else match T t with
  | some ti=>byLit (Y5a op ti (ρ x) (ρ y))
  | none=>none
 | .unOp op _ x=>match ρ x with
  | .val v=>byLit (aun op (.val v))
  | _=>none
 | .fieldAddr t x f=>match ρ x with
  | .optr b sz i c=>Kl T t (.optr b sz i c) f
  | .iptr rw c=>Kl T t (.iptr rw c) f
  | _=>none
 | .field t x f=>Wla T t (ρ x) f
 | .indexAddr t x i=>match ρ x with
  | .optr b sz j c=>Wt T t (.optr b sz j c) (ρ i)
  | .osl b sz o n=>Wt T t (.osl b sz o n) (ρ i)
  | .isl sz rows=>Wt T t (.isl sz rows) (ρ i)
  | _=>none
 | .index t x i=>match ρ x with
  | .agg cs=>Xsb T t (.agg cs) (ρ i)
  | .val v=>byLit (Xsb T t (.val v) (ρ i))
  | _=>none
 | .slice t x lo hi none=>match ρ x with
  | .osl b sz o n=>Zea T t (.osl b sz o n) (lo.map ρ) (hi.map ρ)
  | .isl sz rows=>Zea T t (.isl sz rows) (lo.map ρ) (hi.map ρ)
  | .val v=>byLit (Zea T t (.val v) (lo.map ρ) (hi.map ρ))
  | _=>none
 | .convert s d x=>match ρ x with
  | .val v=>byLit (aconv T s d (.val v))
  | _=>none
 | .extract x i=>match ρ x with
  | .tup vs=>vs[i]?
  | _=>none
 | .build t parts=>abuild T t (parts.toList.map fun p=>(p.1,ρ p.2))
 | .call ⟨.builtin .len,args,tys⟩=>match args[0]?,tys[0]? with
  | some x,some t=>byLit (alen T t (ρ x))
  | _,_=>none
 | .call ⟨.builtin .max,args,_⟩=>match args.toList with
  | [x,y]=>match ρ x,ρ y with
   | .val u,.val v=>byLit (amax (.val u) (.val v))
   | _,_=>none
  | _=>none
 | _=>none
theorem calm_ok (hv:∀ o,uR r (ρv o) (ρr o)) {op:Op} {z:AV} (e:vcalm T op ρv = some z):∃ z',Wz T op ρr = some z'∧uR r z z':=by
 have atv:∀ {o:Operand} {v:Value},ρv o = .val v→ρr o = .val v:=fun {o v} h=>val_eq.1 (h ▸ hv o)
 cases op <;> simp only [vcalm] at e <;> try (cases e; done)
 case move x=>cases e; exact ⟨_,rfl,hv x⟩
 case assign x=>cases e; exact ⟨_,rfl,hv x⟩
 case pick c a b=>
  split at e <;> cases e
  rename_i t h
  simp only [Wz,atv h]
  exact ⟨_,rfl,by cases t <;> exact hv _⟩
 case binOp op t x y t'=>
  split at e
  ·cases e
  rename_i hy
  split at e <;> try (cases e; done)
  rename_i ti ht
  obtain ⟨e1,e2⟩:=Wia e
  refine ⟨z,?_,lit_u e2⟩
  simp only [Wz,ht,aifc_none (show Wba y = false by simpa using hy)]
  exact abin2_ok (hv x) (hv y) e1
 case unOp op t x=>
  split at e <;> try (cases e; done)
  rename_i v h
  obtain ⟨e1,e2⟩:=Wia e
  exact ⟨z,by simp only [Wz,atv h]; exact e1,lit_u e2⟩
 case fieldAddr t x f=>
  have hx:=hv x
  split at e <;> try (cases e; done)
  ·rename_i h
   rw [h] at hx
   obtain ⟨b',hb,q⟩:=hx
   simp only [Wz,q,Kl] at e ⊢
   split at e <;> cases e
   exact ⟨_,rfl,b',hb,rfl⟩
  ·rename_i h
   rw [h] at hx
   have q:ρr x = _:=hx
   simp only [Wz,q]
   refine ⟨z,e,?_⟩
   simp only [Kl] at e
   split at e <;> cases e
   exact (rfl:_ = _)
 case field t x f=>
  have hx:=hv x
  simp only [Wla] at e
  split at e <;> try (cases e; done)
  rename_i hf
  split at e <;> try (cases e; done)
  rename_i cs h
  rw [h] at hx
  obtain ⟨cs',q,hl⟩:=hx
  simp only [Wz,Wla,hf,q]
  exact apart_ok hl e
 case indexAddr t x i=>
  have hx:=hv x
  have hi:=hv i
  split at e <;> try (cases e; done)
  all_goals
   rename_i h
   rw [h] at hx
   simp only [Wt] at e
   split at e <;> try (cases e; done)
   rename_i ti m ht hm
   have hm':=atIntR hi hm
  ·obtain ⟨b',hb,q⟩:=hx
   simp only [Wz,Wt,q,ht,hm'] at e ⊢
   split at e <;> try (cases e; done)
   rename_i h0
   rw [if_pos h0]
   split at e <;> try (cases e; done)
   all_goals (rename_i hk hq; cases hq)
   all_goals (simp only [hk]; split at e <;> try (cases e; done))
   rename_i ei he
   split at e <;> cases e
   rename_i hc
   try simp only [he]
   rw [if_pos hc]
   exact ⟨_,rfl,b',hb,rfl⟩
  ·obtain ⟨b',hb,q⟩:=hx
   simp only [Wz,Wt,q,ht,hm'] at e ⊢
   split at e <;> try (cases e; done)
   rename_i h0
   rw [if_pos h0]
   split at e <;> try (cases e; done)
   all_goals (rename_i hk hq; cases hq)
   all_goals (simp only [hk]; split at e <;> try (cases e; done))
   rename_i ei he
   split at e <;> cases e
   rename_i hc
   try simp only [he]
   rw [if_pos hc]
   exact ⟨_,rfl,b',hb,rfl⟩
  ·have q:ρr x = _:=hx
   simp only [Wz,Wt,q,ht,hm'] at e ⊢
   refine ⟨z,e,?_⟩
   split at e <;> try (cases e; done)
   split at e <;> try (cases e; done)
   all_goals (rename_i hk hq; cases hq)
   all_goals (split at e <;> try (cases e; done))
   split at e <;> try (cases e; done)
   split at e <;> cases e
   exact (rfl:_ = _)
 case index t x i=>
  have hx:=hv x
  have hi:=hv i
  split at e <;> try (cases e; done)
  ·rename_i cs h
   rw [h] at hx
   obtain ⟨cs',q,hl⟩:=hx
   simp only [Xsb] at e
   split at e <;> try (cases e; done)
   rename_i ti m ht hm
   have hm':=atIntR hi hm
   simp only [Wz,Xsb,q,ht,hm'] at e ⊢
   split at e <;> try (cases e; done)
   rename_i h0
   rw [if_pos h0]
   split at e <;> try (cases e; done)
   all_goals (rename_i hk hq; cases hq)
   simp only [hk]
   split at e <;> try (cases e; done)
   rename_i ei he
   split at e <;> try (cases e; done)
   rename_i hc
   try simp only [he]
   rw [if_pos hc]
   exact apart_ok hl e
  ·rename_i v h
   obtain ⟨e1,e2⟩:=Wia e
   refine ⟨z,?_,lit_u e2⟩
   simp only [Wz,atv h]
   simp only [Xsb] at e1 ⊢
   split at e1 <;> try (cases e1; done)
   rename_i ti m ht hm
   simp only [ht,atIntR hi hm]
   exact e1
 case slice t x lo hi mx=>
  cases mx with
  | some m=>cases e
  | none=>
   have hx:=hv x
   simp only at e
   split at e <;> try (cases e; done)
   ·rename_i h
    rw [h] at hx
    obtain ⟨b',hb,q⟩:=hx
    simp only [Wz,Zea,q] at e ⊢
    split at e <;> try (cases e; done)
    rename_i ti ht
    split at e <;> try (cases e; done)
    all_goals (rename_i hk hq; cases hq)
    all_goals (try simp only [hk])
    split at e <;> try (cases e; done)
    rename_i h1 h2 h3
    split at e <;> cases e
    rename_i hc
    simp only [h1,Kva hv h2,Kva hv h3]
    rw [if_pos hc]
    exact ⟨_,rfl,b',hb,rfl⟩
   ·rename_i h
    rw [h] at hx
    have q:ρr x = _:=hx
    simp only [Wz,Zea,q] at e ⊢
    split at e <;> try (cases e; done)
    split at e <;> try (cases e; done)
    all_goals (rename_i hk hq; cases hq)
    all_goals (try simp only [hk])
    split at e <;> try (cases e; done)
    rename_i h1 h2 h3
    split at e <;> cases e
    rename_i hc
    simp only [h1,Kva hv h2,Kva hv h3]
    rw [if_pos hc]
    exact ⟨_,rfl,(rfl:_ = _)⟩
   ·rename_i v h
    obtain ⟨e1,e2⟩:=Wia e
    refine ⟨z,?_,lit_u e2⟩
    simp only [Wz,atv h]
    simp only [Zea] at e1 ⊢
    split at e1 <;> try (cases e1; done)
    split at e1 <;> try (cases e1; done)
    all_goals (rename_i hk hq; cases hq)
    all_goals (try simp only [hk])
    all_goals (split at e1 <;> try (cases e1; done))
    ·rename_i h1 h2 h3
     simp only [h1,Kva hv h2,Kva hv h3]; exact e1
    ·rename_i h2 h3
     simp only [Kva hv h2,Kva hv h3]; exact e1
 case convert s d x=>
  split at e <;> try (cases e; done)
  rename_i v h
  obtain ⟨e1,e2⟩:=Wia e
  exact ⟨z,by simp only [Wz,atv h]; exact e1,lit_u e2⟩
 case extract x i=>
  have hx:=hv x
  split at e <;> try (cases e; done)
  rename_i vs h
  rw [h] at hx
  obtain ⟨vs',q,hl⟩:=hx
  obtain ⟨y,a,b⟩:=hl.get i e
  exact ⟨y,by simp only [Wz,q]; exact a,b.u⟩
 case build t parts=>
  simp only [abuild] at e
  split at e <;> try (cases e; done)
  rename_i ti ht
  split at e <;> try (cases e; done)
  rename_i hp
  split at e <;> cases e
  rename_i cs hf
  obtain ⟨cs',a,b⟩:=afill_ok _ parts.toList hv (LR.vals r ti.zero) hf
  refine ⟨.agg cs',by simp only [Wz,abuild,ht,hp,a,if_true],cs',rfl,b⟩
 case call c=>
  obtain ⟨tg,args,tys⟩:=c
  cases tg with
  | value f=>cases e
  | invoke _ _=>cases e
  | builtin bi=>
   cases bi <;> try (cases e; done)
   ·simp only at e
    split at e <;> try (cases e; done)
    rename_i x t hx ht
    obtain ⟨e1,e2⟩:=Wia e
    refine ⟨z,?_,lit_u e2⟩
    simp only [Wz,hx,ht]
    have hq:=hv x
    simp only [alen] at e1 ⊢
    split at e1 <;> try (cases e1; done)
    rename_i ti hti
    generalize ρv x = u at *
    generalize ρr x = u' at *
    split at e1 <;> try (cases e1; done)
    all_goals (rename_i hk; simp only [hk])
    all_goals (first | exact e1 | (simp only [uR,vR,cR] at hq; first | (subst hq; exact e1) | (obtain ⟨_,_,rfl⟩:=hq; exact e1)))
   ·simp only at e
    split at e <;> try (cases e; done)
    rename_i x y hl
    split at e <;> try (cases e; done)
    rename_i u v hu hv'
    obtain ⟨e1,e2⟩:=Wia e
    exact ⟨z,by simp only [Wz,hl,atv hu,atv hv']; exact e1,lit_u e2⟩
end
noncomputable def vsrc (sz:Nat) (kx:TK) (x:AV) (l:VH):Option (List (List AV)):=
 match kx,x with
 | .sl _,.isl sz' rows=>if sz' = sz∧rows.all (·.all Kba) = true then some rows else none
 | .sl _,.osl b sz' off len=>match vgq l b with
  | some o=>if sz' = sz∧o.sz = sz∧off+len≤o.rows.length then some ((o.rows.drop off).take len) else none
  | none=>none
 | .sl _,.val (.slice none 0 0)=>some []
 | .str,.val (.string s)=>if sz = 1 then some (s.data.toList.map fun b=>[Yab b.toNat]) else none
 | _,_=>none
noncomputable def vdst (sz:Nat) (s:AV) (l:VH):Option (List (List AV)×Option (Nat×Option (Nat×Nat))):=
 match s with
 | .val (.slice none 0 0)=>some ([],none)
 | .osl b sz' 0 len=>match vgq l b with
  | some o=>if sz' = sz∧o.sz = sz∧len≤o.rows.length then some (o.rows.take len,some (b,o.ty)) else none
  | none=>none
 | _=>none
abbrev VRes:=Option (AV×Nat×VH)
noncomputable def vnew (x:AV) (o:Ob) (n:Nat) (l:VH):VRes:=frcR o.rows fun rows=>frcN n fun n=>some (x,n+1,(n,⟨o.sz,rows,o.ty⟩) :: l)
theorem vnew_eq (x:AV) (o:Ob) (n:Nat) (l:VH):vnew x o n l = some (x,n+1,(n,o) :: l):=by simp [vnew,frcR_eq,frcN_eq]
noncomputable def vapp (T:Tab) (t tx:Nat) (s x:AV) (n:Nat) (l:VH):VRes:=
 match T t,T tx with
 | some ti,some tix=>match ti.kind with
  | .sl e=>match T e with
   | some ei=>match vdst ei.size s l,vsrc ei.size tix.kind x l with
    | some (rs,ob),some xs=>
     if (rs.length+xs.length) * ei.bytes≤140737488355328∧0 < ei.size∧0 < ei.bytes then
      match ob with
      | none=>match xs with
       | []=>some (anil,n,l)
       | y :: ys=>vnew (.osl n ei.size 0 (y :: ys).length) ⟨ei.size,y :: ys,some (e,0)⟩ n l
      | some (b0,ty)=>frcF (fun i=>!(Nat.beq i b0)) l fun l=>vnew (.osl n ei.size 0 (rs.length+xs.length)) ⟨ei.size,rs++xs,Kn e ty⟩ n l
     else none
    | _,_=>none
   | none=>none
  | _=>none
 | _,_=>none
noncomputable def vtext (T:Tab) (s d:Nat) (x:AV) (l:VH):Option AV:=
 match T s,T d with
 | some si,some di=>match si.kind,di.kind with
  | .sl e,.str=>match T e with
   | some ei=>match ei.kind,vsrc 1 si.kind x l with
    | .int .u8,some rows=>match bytesOf rows with
     | some l=>some (astr ⟨l.toArray⟩)
     | none=>none
    | _,_=>none
   | none=>none
  | _,_=>none
 | _,_=>none
noncomputable def vload (T:Tab) (t:Nat) (x:AV) (l:VH):Option AV:=match x with
 | .optr b sz i c=>match T t,vgq l b with
  | some ti,some o=>match nthq o.rows i with
   | some r=>if o.sz = sz then apart ti r c else none
   | none=>none
  | _,_=>none
 | .iptr r c=>match T t with
  | some ti=>match apart ti r c with
   | some z=>if closed z then some z else none
   | none=>none
  | none=>none
 | _=>none
noncomputable def vstore (T:Tab) (t:Nat) (p x:AV) (n:Nat) (l:VH):VRes:=match T t,p with
 | some ti,.optr b sz i c=>match vgq l b with
  | some o=>match nthq o.rows i with
   | some r=>if o.sz = sz∧x.okCells = true∧x.cells.length = ti.size∧c+ti.size≤r.length then
     frcR (o.rows.set i (r.take c++x.cells++r.drop (c+ti.size))) fun rows=>frcS l b ⟨sz,rows,o.ty⟩ fun l=>some (.any,n,l) else none
   | none=>none
  | none=>none
 | _,_=>none
noncomputable def vlit (T:Tab) (t len:Nat) (ps:List (Nat×AV)) (n:Nat) (l:VH):VRes:=match T t with
 | some ti=>match ti.kind with
  | .sl e=>match T e with
   | some ei=>if 0 < ei.size∧len * ei.size≤16777216 then match Jqa ei.size (List.replicate len (ei.zero.map .val)) ps with
    | some rows=>vnew (.osl n ei.size 0 len) ⟨ei.size,rows,some (e,0)⟩ n l
    | none=>none else none
   | none=>none
  | _=>none
 | none=>none
abbrev Jta:=Nat→List AV→Nat→VH→VRes
noncomputable def vcall (pu:Bool) (call:Jta) (k:Nat) (xs:List AV) (n:Nat) (l:VH):VRes:=
 if pu then (if xs.all closed then match call k xs 0 [] with
  | some (x,_,_)=>if closed x then some (x,n,l) else none
  | none=>none else none)
 else call k xs n l
noncomputable def vres (T:Tab) (pu:Bool) (call:Jta) (op:Op) (ρ:Operand→AV) (n:Nat) (l:VH):VRes:=
 match op with
 | .alloc t=>match T t with
  | some ti=>vnew (.optr n ti.size 0 0) ⟨ti.size,[ti.zero.map .val],some (t,ti.size)⟩ n l
  | none=>none
 | .box t x=>match T t with
  | some ti=>if (ρ x).okCells = true∧(ρ x).cells.length = ti.size then vnew (.optr n ti.size 0 0) ⟨ti.size,[(ρ x).cells],some (t,ti.size)⟩ n l else none
  | none=>none
 | .load t x=>if pu then none else match vload T t (ρ x) l with
  | some z=>some (z,n,l)
  | none=>none
 | .store t p x=>vstore T t (ρ p) (ρ x) n l
 | .buildSlice t len parts=>vlit T t len (parts.toList.map fun p=>(p.1,ρ p.2)) n l
 | .call ⟨.builtin .append,args,tys⟩=>match args.toList,tys.toList with
  | [s,x],[t,tx]=>vapp T t tx (ρ s) (ρ x) n l
  | _,_=>none
 | .call ⟨.value f,args,_⟩=>match ρ f with
  | .fn (.func k) [] []=>vcall pu call k (args.toList.map ρ) n l
  | _=>none
 | .convert s d x=>match vcalm T (.convert s d x) ρ with
  | some z=>some (z,n,l)
  | none=>match aconv T s d (ρ x),vtext T s d (ρ x) l with
   | none,some z=>some (z,n,l)
   | _,_=>none
 | op=>match vcalm T op ρ with
  | some z=>some (z,n,l)
  | none=>none
noncomputable def gI (k k':IntKind) (o:Option AV):Option AV:=if k = k' then o else none
noncomputable def fInt (op:BinOp) (k:IntKind) (a:Int) (k':IntKind) (b:Int):Option AV:=match op with
 | .add=>gI k k' (some (.val (.int k (k.wrap (a+b)))))
 | .sub=>gI k k' (some (.val (.int k (k.wrap (a - b)))))
 | .eql=>gI k k' (some (Zk (a == b)))
 | .neq=>gI k k' (some (Zk (a != b)))
 | .lss=>gI k k' (some (Zk (decide (a < b))))
 | .leq=>gI k k' (some (Zk (decide (a≤b))))
 | .gtr=>gI k k' (some (Zk (decide (a > b))))
 | .geq=>gI k k' (some (Zk (decide (a≥b))))
 | op=>abin op .one (.val (.int k a)) (.val (.int k' b))
theorem fInt_eq (op:BinOp) (tk:TK) (k:IntKind) (a:Int) (k':IntKind) (b:Int):fInt op k a k' b = abin op tk (.val (.int k a)) (.val (.int k' b)):=by cases op <;> rfl
noncomputable def fV2 (op:BinOp) (ti:TI) (k:IntKind) (a:Int) (v:Value):Option AV:=match v with
 | .int k' b=>fInt op k a k' b
 | v=>Y5a op ti (.val (.int k a)) (.val v)
noncomputable def fV1 (op:BinOp) (ti:TI) (k:IntKind) (a:Int) (y:AV):Option AV:=match y with
 | .val v=>fV2 op ti k a v
 | y=>Y5a op ti (.val (.int k a)) y
noncomputable def fV0 (op:BinOp) (ti:TI) (u:Value) (y:AV):Option AV:=match u with
 | .int k a=>fV1 op ti k a y
 | u=>Y5a op ti (.val u) y
noncomputable def fBin (op:BinOp) (ti:TI) (x y:AV):Option AV:=match x with
 | .val u=>fV0 op ti u y
 | x=>Y5a op ti x y
theorem fBin_eq (op:BinOp) (ti:TI) (x y:AV):fBin op ti x y = Y5a op ti x y:=by
 unfold fBin
 split
 ·unfold fV0
  split
  ·unfold fV1
   split
   ·unfold fV2
    split
    ·exact fInt_eq op ti.kind _ _ _ _
    ·rfl
   ·rfl
  ·rfl
 ·rfl
noncomputable def fOne (o:Option AV) (n:Nat) (l:VH):VRes:=match o with
 | some z=>some (z,n,l)
 | none=>none
noncomputable def fBT (o:Option TI) (op:BinOp) (x y:AV):Option AV:=match o with
 | some ti=>byLit (fBin op ti x y)
 | none=>none
noncomputable def fBO (T:Tab) (op:BinOp) (t:Nat) (x:AV) (c:Bool) (y:AV):Option AV:=cond c none (fBT (T t) op x y)
noncomputable def fPk (x a b:AV):Option AV:=match x with
 | .val (.bool t)=>some (if t then a else b)
 | _=>none
noncomputable def fEx (x:AV) (i:Nat):Option AV:=match x with
 | .tup vs=>vs[i]?
 | _=>none
noncomputable def fAlloc (T:Tab) (t:Nat) (n:Nat) (l:VH):VRes:=match T t with
 | some ti=>vnew (.optr n ti.size 0 0) ⟨ti.size,[ti.zero.map .val],some (t,ti.size)⟩ n l
 | none=>none
noncomputable def fCall (T:Tab) (pu:Bool) (call:Jta) (x:AV) (xs:List AV) (n:Nat) (l:VH):VRes:=match x with
 | .fn (.func k) [] []=>vcall pu call k xs n l
 | _=>none
noncomputable def fTg (T:Tab) (pu:Bool) (call:Jta) (c:Call) (ρ:Operand→AV) (n:Nat) (l:VH):VRes:=match c.callee with
 | .value f=>fCall T pu call (ρ f) (c.args.toList.map ρ) n l
 | _=>vres T pu call (.call c) ρ n l
noncomputable def vresF (T:Tab) (pu:Bool) (call:Jta) (op:Op) (ρ:Operand→AV) (n:Nat) (l:VH):VRes:=match op with
 | .move x=>some (ρ x,n,l)
 | .assign x=>some (ρ x,n,l)
 | .pick c a b=>fOne (fPk (ρ c) (ρ a) (ρ b)) n l
 | .binOp op t x y _=>fOne (fBO T op t (ρ x) (Wba y) (ρ y)) n l
 | .extract x i=>fOne (fEx (ρ x) i) n l
 | .alloc t=>fAlloc T t n l
 | .load t x=>cond pu none (fOne (vload T t (ρ x) l) n l)
 | .store t p x=>vstore T t (ρ p) (ρ x) n l
 | .call c=>fTg T pu call c ρ n l
 | op=>vres T pu call op ρ n l
theorem vresF_eq (T:Tab) (pu:Bool) (call:Jta) (op:Op) (ρ:Operand→AV) (n:Nat) (l:VH):vresF T pu call op ρ n l = vres T pu call op ρ n l:=by
 cases op <;> try rfl
 case binOp op t x y t'=>
  simp only [vresF,vres,vcalm,fBO]
  cases Wba y
  ·simp only [cond_false,Bool.false_eq_true,if_false,fBT]
   cases T t with
   | none=>rfl
   | some ti=>simp only [fBin_eq]; rfl
  ·rfl
 case load t x=>
  simp only [vresF,vres]
  cases pu <;> rfl
 case call c=>
  obtain ⟨tg,args,tys⟩:=c
  cases tg with
  | value f=>
   simp only [vresF,fTg,fCall,vres]
  | _=>rfl
def CallOK (P:Program) (call:Jta):Prop:=∀ k args n l x n' l',call k args n l = some (x,n',l')→∀ h0 r h args',Rep h0 r n l h→LR (uR r) args args' →
 Zo P k args' h fun E h'=>∃ y r',E = .ret y∧Ext r r'∧uR r' x y∧Rep h0 r' n' l' h'
theorem Zo.less {P:Program} {f:Nat} {args:List AV} {h:Hp} {Q Q':AE→Hp→Prop} (k:Zo P f args h Q) (hq:∀ e h',Q e h'→∃ h'',h''.sub h'∧Q' e h''):Zo P f args h Q':=
 ⟨k.1,fun g w vs hv hh=>(k.2 g w vs hv hh).mono fun e w' ⟨g',h',E,a,b,c,d⟩=>by
  obtain ⟨h'',s,q⟩:=hq _ _ c
  exact ⟨g',h'',E,a,b.forget s,q,d⟩⟩
theorem CallOK.pure {P:Program} {call:Jta} (hc:CallOK P call) {k:Nat} {args:List AV} {x:AV} {n:Nat} {l:VH} (e:call k args 0 [] = some (x,n,l)) (ha:args.all closed = true) (hx:closed x = true):Kya P k args x:=fun h=>
 (hc _ _ _ _ _ _ _ e h [] h args (Rep.nil h) ((closeds_eq ha).2 rfl)).less fun E h' ⟨y,r',e1,_,e2,R⟩=>⟨h,R.sub,by rw [e1,(Yea hx).1 e2],rfl⟩
section
variable {P:Program} {T:Tab} {r:List Nat} {ρv ρr:Operand→AV} {h0 h:Hp} {n:Nat} {l:VH}
theorem vals_rows (r:List Nat) (m:Nat) (z:List Value):LR (LR (cR r)) (List.replicate m (z.map .val)) (List.replicate m (z.map .val)):=LR.rep (LR.vals r z) m
theorem src_ok (R:Rep h0 r n l h) {sz:Nat} {kx:TK} {x x':AV} {rows:List (List AV)} (hx:uR r x x') (e:vsrc sz kx x l = some rows):∃ rows',aSrc sz kx x' h = some rows'∧LR (LR (cR r)) rows rows':=by
 unfold vsrc at e
 simp only [vgq_eq] at e
 split at e <;> try (cases e; done)
 ·split at e <;> cases e
  rename_i hc
  have q:x' = _:=hx
  subst q
  exact ⟨rows,by simp [aSrc,hc.1],(LR.eqs (fun ro:List AV=>ro.all Kba) (fun _ _ hp=>LR.eqs Kba (fun _ _=>Wja) hp) hc.2).2 rfl⟩
 ·obtain ⟨b',hb,rfl⟩:=hx
  split at e <;> try (cases e; done)
  rename_i o ho
  split at e <;> cases e
  rename_i hc
  obtain ⟨q1,o',q2,q3,q4,q5⟩:=R.get ho hb
  refine ⟨(o'.rows.drop _).take _,?_,(q5.drop _).take _⟩
  simp only [aSrc,q2]
  rw [if_pos ⟨hc.1,by rw [q3]; exact hc.2.1,by rw [← q5.len]; exact hc.2.2⟩]
 ·have q:x' = _:=hx
  subst q
  cases e
  exact ⟨[],rfl,trivial⟩
 ·have q:x' = _:=hx
  subst q
  split at e <;> cases e
  rename_i hc
  exact ⟨_,by simp only [aSrc]; rw [if_pos hc],LR.map (fun b:UInt8=>[Yab b.toNat]) (fun b:UInt8=>[Yab b.toNat]) (fun z=>⟨(Wja rfl).2 rfl,trivial⟩) _⟩
theorem dst_ok (R:Rep h0 r n l h) {sz:Nat} {x x':AV} {rs:List (List AV)} {ob:Option (Nat×Option (Nat×Nat))} (hx:uR r x x') (e:vdst sz x l = some (rs,ob)) :
  ∃ rs',LR (LR (cR r)) rs rs'∧((ob = none∧aDst sz x' h = some (rs',none))∨∃ b ty b' o,ob = some (b,ty)∧r[b]? = some b'∧vget l b = some o∧aDst sz x' h = some (rs',some (b',ty))):=by
 unfold vdst at e
 simp only [vgq_eq] at e
 split at e <;> try (cases e; done)
 ·have q:x' = _:=hx
  subst q
  cases e
  exact ⟨[],trivial,.inl ⟨rfl,rfl⟩⟩
 ·obtain ⟨b',hb,rfl⟩:=hx
  split at e <;> try (cases e; done)
  rename_i o ho
  split at e <;> cases e
  rename_i hc
  obtain ⟨q1,o',q2,q3,q4,q5⟩:=R.get ho hb
  refine ⟨o'.rows.take _,q5.take _,.inr ⟨_,_,b',o,rfl,hb,ho,?_⟩⟩
  simp only [aDst,q2]
  rw [if_pos ⟨hc.1,by rw [q3]; exact hc.2.1,by rw [← q5.len]; exact hc.2.2⟩,q4]
theorem bytes_ok:∀ {xs ys:List (List AV)} {m:List UInt8},LR (LR (cR r)) xs ys→bytesOf xs = some m→bytesOf ys = some m
 | [],[],m,_,e=>e
 | x :: xs,y :: ys,m,h,e=>by
  unfold bytesOf at e
  split at e <;> try (cases e; done)
  all_goals (rename_i heq; cases heq)
  split at e <;> cases e
  rename_i hm
  cases y with
  | nil=>exact h.1.elim
  | cons u us=>
   cases us with
   | cons=>exact h.1.2.elim
   | nil=>
    have q:u = _:=h.1.1
    subst q
    simp only [bytesOf,bytes_ok h.2 hm]
theorem app_ok (R:Rep h0 r n l h) {t tx:Nat} {s s' y y' x:AV} {n':Nat} {l':VH} (hs:uR r s s') (hy:uR r y y') (e:vapp T t tx s y n l = some (x,n',l'))
  {k:AV→Hp→Prop} (hk:∀ r' y h',Ext r r'→uR r' x y→Rep h0 r' n' l' h'→k y h'):Kxa T t tx s' y' h k:=by
 unfold vapp at e
 simp only [frcF_eq,vnew_eq,nb_eq] at e
 unfold Kxa
 split at e <;> try (cases e; done)
 rename_i ti tix ht htx
 split at e <;> try (cases e; done)
 rename_i ee hkd
 split at e <;> try (cases e; done)
 rename_i ei he
 split at e <;> try (cases e; done)
 rename_i rs ob xs e1 e2
 obtain ⟨xs',p1,p2⟩:=src_ok R hy e2
 obtain ⟨rs',d1,d2⟩:=dst_ok R hs e1
 split at e <;> try (cases e; done)
 rename_i hc
 rcases d2 with ⟨rfl,d3⟩ | ⟨b,ty,b',o,rfl,hb,ho,d3⟩
 ·simp only [ht,htx,hkd,he,d3,p1]
  refine ⟨by rw [← d1.len,← p2.len]; exact hc.1,hc.2.1,hc.2.2,?_⟩
  cases xs with
  | nil=>
   cases xs' with
   | cons=>exact p2.elim
   | nil=>
    cases e
    exact ⟨fun _=>hk r _ h (Ext.refl r) (val_eq.2 rfl) R,fun q=>absurd rfl q⟩
  | cons z zs=>
   cases xs' with
   | nil=>exact p2.elim
   | cons z' zs'=>
    cases e
    refine ⟨fun q=>(by cases q),fun _ c hc'=>?_⟩
    obtain ⟨x1,x2,x3⟩:=R.new hc' (o:=⟨ei.size,z :: zs,some (_,0)⟩) (o':=⟨ei.size,z' :: zs',some (_,0)⟩) ⟨rfl,rfl,p2⟩
    exact hk _ _ _ x1 ⟨c,x2,by rw [p2.len]⟩ x3
 ·simp only [ht,htx,hkd,he,d3,p1]
  refine ⟨by rw [← d1.len,← p2.len]; exact hc.1,hc.2.1,hc.2.2,fun c hc'=>?_⟩
  cases e
  obtain ⟨x1,x2,x3⟩:=(R.del ho hb).new hc' (o:=⟨ei.size,rs++xs,Kn _ ty⟩) (o':=⟨ei.size,rs'++xs',Kn _ ty⟩) ⟨rfl,rfl,d1.app p2⟩
  exact hk _ _ _ x1 ⟨c,x2,by rw [d1.len,p2.len]⟩ x3
theorem text_ok (R:Rep h0 r n l h) {s d:Nat} {x x' z:AV} (hx:uR r x x') (e:vtext T s d x l = some z):Ybb T s d x' h = some z∧lit z = true:=by
 unfold vtext at e
 unfold Ybb
 split at e <;> try (cases e; done)
 rename_i si di hs hd
 split at e <;> try (cases e; done)
 rename_i ee hk1 hk2
 split at e <;> try (cases e; done)
 rename_i ei he
 split at e <;> try (cases e; done)
 rename_i hk3 e2
 obtain ⟨xs',p1,p2⟩:=src_ok R hx e2
 split at e <;> cases e
 rename_i e3
 simp only [hs,hd,hk1,hk2,he,hk3] at p1 ⊢
 simp only [p1,bytes_ok p2 e3]
 exact ⟨trivial,rfl⟩
theorem vres_ok {pu:Bool} {call:Jta} (hc:CallOK P call) {op:Op} {x:AV} {n':Nat} {l':VH} (hv:∀ o,uR r (ρv o) (ρr o)) (R:Rep h0 r n l h) (e:vres T pu call op ρv n l = some (x,n',l'))
  {k X:AV→Hp→Prop} (hk:∀ r' y h',Ext r r'→uR r' x y→Rep h0 r' n' l' h'→k y h'):aRes P T pu op ρr h k X:=by
 have calm:∀ {z:AV},vcalm T op ρv = some z→(some (z,n,l):VRes) = some (x,n',l')→(match Wz T op ρr with | some x=>k x h | none=>False)∧∃ z',Wz T op ρr = some z'∧k z' h:=fun {z} h1 h2=>by
  obtain ⟨z',a,b⟩:=calm_ok hv h1
  cases h2
  have:=hk r z' h (Ext.refl r) b R
  exact ⟨by rw [a]; exact this,z',a,this⟩
 have gen:(match vcalm T op ρv with | some z=>some (z,n,l) | none=>none) = some (x,n',l')→(match Wz T op ρr with | some x=>k x h | none=>False):=fun e=>by
  split at e <;> try (cases e; done)
  rename_i z hz
  exact (calm hz e).1
 cases op <;> simp only [vres] at e
 case alloc t=>
  simp only [vnew_eq] at e
  split at e <;> cases e
  rename_i ti ht
  simp only [aRes,ht]
  intro b hb
  obtain ⟨x1,x2,x3⟩:=R.new hb (o:=⟨ti.size,[ti.zero.map .val],some (t,ti.size)⟩) (o':=⟨ti.size,[ti.zero.map .val],some (t,ti.size)⟩) ⟨rfl,rfl,LR.vals r _,trivial⟩
  exact hk _ _ _ x1 ⟨b,x2,rfl⟩ x3
 case box t y=>
  simp only [vnew_eq] at e
  split at e <;> try (cases e; done)
  rename_i ti ht
  split at e <;> cases e
  rename_i hc'
  obtain ⟨c1,c2⟩:=K8a (hv y) hc'.1
  simp only [aRes,ht]
  refine ⟨c1,by rw [← c2.len]; exact hc'.2,fun b hb=>?_⟩
  obtain ⟨x1,x2,x3⟩:=R.new hb (o:=⟨ti.size,[(ρv y).cells],some (t,ti.size)⟩) (o':=⟨ti.size,[(ρr y).cells],some (t,ti.size)⟩) ⟨rfl,rfl,c2,trivial⟩
  exact hk _ _ _ x1 ⟨b,x2,rfl⟩ x3
 case load t y=>
  split at e
  ·cases e
  rename_i hpu
  split at e <;> cases e
  rename_i z hz
  have hy:=hv y
  unfold vload at hz
  simp only [vgq_eq,nthq_eq] at hz
  split at hz <;> try (cases hz; done)
  ·rename_i hq
   rw [hq] at hy
   obtain ⟨b',hb,q⟩:=hy
   split at hz <;> try (cases hz; done)
   rename_i ti o ht ho
   split at hz <;> try (cases hz; done)
   rename_i row hrow
   split at hz <;> try (cases hz; done)
   rename_i hsz
   obtain ⟨q1,o',q2,q3,q4,q5⟩:=R.get ho hb
   obtain ⟨row',w1,w2⟩:=q5.get _ hrow
   obtain ⟨z',w3,w4⟩:=apart_ok w2 hz
   simp only [aRes,q,ht,q2,w1,w3]
   rw [if_neg hpu]
   exact ⟨by rw [q3]; exact hsz,hk r _ h (Ext.refl r) w4 R⟩
  ·rename_i hq
   rw [hq] at hy
   have q:ρr y = _:=hy
   split at hz <;> try (cases hz; done)
   rename_i ti ht
   split at hz <;> try (cases hz; done)
   rename_i z2 hz2
   split at hz <;> cases hz
   rename_i hcl
   simp only [aRes,q,aloadI,ht,hz2]
   exact hk r _ h (Ext.refl r) ((Yea hcl).2 rfl) R
 case store t p y=>
  unfold vstore at e
  simp only [frcR_eq,frcS_eq,vgq_eq,nthq_eq] at e
  have hp:=hv p
  split at e <;> try (cases e; done)
  rename_i ti b sz i c ht hq
  rw [hq] at hp
  obtain ⟨b',hb,q⟩:=hp
  split at e <;> try (cases e; done)
  rename_i o ho
  split at e <;> try (cases e; done)
  rename_i row hrow
  split at e <;> cases e
  rename_i hcc
  obtain ⟨q1,o',q2,q3,q4,q5⟩:=R.get ho hb
  obtain ⟨row',w1,w2⟩:=q5.get _ hrow
  obtain ⟨c1,c2⟩:=K8a (hv y) hcc.2.1
  simp only [aRes,q,ht,q2,w1]
  refine ⟨by rw [q3]; exact hcc.1,c1,by rw [← c2.len]; exact hcc.2.2.1,by rw [← w2.len]; exact hcc.2.2.2,?_⟩
  exact hk r _ _ (Ext.refl r) (rfl:_ = _) (R.upd ho hb ⟨rfl,q4,q5.set _ (((w2.take _).app c2).app (w2.drop _))⟩)
 case buildSlice t len ps=>
  unfold vlit at e
  simp only [vnew_eq] at e
  split at e <;> try (cases e; done)
  rename_i ti ht
  split at e <;> try (cases e; done)
  rename_i ee hkd
  split at e <;> try (cases e; done)
  rename_i ei he
  split at e <;> try (cases e; done)
  rename_i hcc
  split at e <;> cases e
  rename_i rows hr
  obtain ⟨rows',w1,w2⟩:=arows_ok ps.toList hv (vals_rows r len ei.zero) hr
  simp only [aRes,ht,hkd,he,w1]
  refine ⟨hcc.1,hcc.2,fun b hb=>?_⟩
  obtain ⟨x1,x2,x3⟩:=R.new hb (o:=⟨ei.size,rows,some (ee,0)⟩) (o':=⟨ei.size,rows',some (ee,0)⟩) ⟨rfl,rfl,w2⟩
  exact hk _ _ _ x1 ⟨b,x2,rfl⟩ x3
 case convert s d y=>
  split at e
  ·rename_i z hz
   obtain ⟨z',a,b⟩:=(calm hz e).2
   simp only [aRes,a]; exact b
  ·split at e <;> cases e
   rename_i h1 h2
   obtain ⟨t1,t2⟩:=text_ok R (hv y) h2
   have hnone:Wz T (.convert s d y) ρr = none:=by
    unfold vtext at h2
    split at h2 <;> try (cases h2; done)
    rename_i si di hs hd
    split at h2 <;> try (cases h2; done)
    rename_i ee hk1 hk2
    simp only [Wz,aconv,hs,hd,hk1]
   simp only [aRes,hnone,t1]
   exact hk r _ h (Ext.refl r) (lit_u t2) R
 case call c=>
  obtain ⟨tg,args,tys⟩:=c
  cases tg with
  | invoke _ _=>exact absurd e (by simp [vcalm])
  | value f=>
   simp only at e
   have hf:=hv f
   split at e <;> try (cases e; done)
   rename_i kf hq
   rw [hq] at hf
   have q:ρr f = _:=hf
   have hargs:LR (uR r) (args.toList.map ρv) (args.toList.map ρr):=LR.map _ _ hv _
   simp only [aRes,q,List.nil_append,List.append_nil]
   unfold vcall at e
   split at e
   ·rename_i hpu
    rw [if_pos hpu]
    split at e <;> try (cases e; done)
    rename_i ha
    split at e <;> try (cases e; done)
    rename_i z _ _ hcall
    split at e <;> cases e
    rename_i hz
    rw [(closeds_eq ha).1 hargs]
    exact ⟨_,hc.pure hcall ha hz,hk r _ h (Ext.refl r) ((Yea hz).2 rfl) R⟩
   ·rename_i hpu
    rw [if_neg hpu]
    refine (hc _ _ _ _ _ _ _ e h0 r h _ R hargs).mono ?_
    rintro E h' ⟨y,r',rfl,x1,x2,x3⟩
    exact hk _ _ _ x1 x2 x3
  | builtin bi=>
   cases bi
   case append=>
    simp only at e
    split at e <;> try (cases e; done)
    rename_i hs ht
    simp only [aRes,hs,ht]
    exact app_ok R (hv _) (hv _) e hk
   case len=>exact gen e
   case max=>exact gen e
   all_goals exact absurd e (by simp [vcalm])
 case binOp op t y z t'=>
  split at e <;> try (cases e; done)
  rename_i w hw
  obtain ⟨z',a,b⟩:=(calm hw e).2
  simp only [aRes,a]; exact b
 all_goals first | (exact gen e) | (exact absurd e (by simp [vcalm]))
end
inductive TT where
 | e
 | l (x:AV)
 | n (a b:TT)
def TT.leaf:TT→AV
 | .l x=>x
 | _=>.any
noncomputable def tat (D:Nat):TT→Nat→AV:=
 Nat.rec (motive:=fun _=>TT→Nat→AV) (fun t i=>cond (Nat.beq i 0) t.leaf .any)
  (fun _ ih t i=>TT.casesOn (motive:=fun _=>AV) t .any (fun _=>.any) (fun a b=>cond (Nat.beq (Nat.mod i 2) 0) (ih a (Nat.div i 2)) (ih b (Nat.div i 2)))) D
noncomputable def tputN {β:Type} (ih:TT→Nat→AV→(TT→β)→β) (a b:TT) (i:Nat) (x:AV) (k:TT→β):β:=
 cond (Nat.beq (Nat.mod i 2) 0) (ih a (Nat.div i 2) x fun a=>k (.n a b)) (ih b (Nat.div i 2) x fun b=>k (.n a b))
noncomputable def tput {β:Type} (D:Nat):TT→Nat→AV→(TT→β)→β:=
 Nat.rec (motive:=fun _=>TT→Nat→AV→(TT→β)→β) (fun t i x k=>cond (Nat.beq i 0) (k (.l x)) (k t))
  (fun _ ih t=>TT.casesOn (motive:=fun _=>Nat→AV→(TT→β)→β) t (tputN ih .e .e) (fun _=>tputN ih .e .e) (fun a b=>tputN ih a b)) D
theorem tput_0 {β:Type} (t:TT) (i:Nat) (x:AV) (k:TT→β):tput 0 t i x k = cond (Nat.beq i 0) (k (.l x)) (k t):=rfl
theorem tat_0 (t:TT) (i:Nat):tat 0 t i = cond (Nat.beq i 0) t.leaf .any:=rfl
theorem tat_n (D:Nat) (a b:TT) (i:Nat):tat (D+1) (.n a b) i = cond (Nat.beq (Nat.mod i 2) 0) (tat D a (Nat.div i 2)) (tat D b (Nat.div i 2)):=rfl
theorem Vla {β:Type}:∀ (D:Nat) (t:TT) (i:Nat) (x:AV) (k:TT→β),tput D t i x k = k (tput D t i x id)
 | 0,t,i,x,k=>by
  rw [tput_0,tput_0]
  cases Nat.beq i 0 <;> rfl
 | D+1,t,i,x,k=>by
  have h:∀ (a b:TT),tputN (tput D) a b i x k = k (tputN (tput D) a b i x id):=fun a b=>by
   unfold tputN
   cases Nat.beq (Nat.mod i 2) 0
   ·simp only [cond_false]
    rw [Vla D b _ x (fun b=>k (TT.n a b)),Vla D b _ x (fun b=>id (TT.n a b))]; rfl
   ·simp only [cond_true]
    rw [Vla D a _ x (fun a=>k (TT.n a b)),Vla D a _ x (fun a=>id (TT.n a b))]; rfl
  cases t <;> exact h _ _
theorem tat_e (D i:Nat):tat D .e i = .any:=by
 cases D
 ·rw [tat_0]; cases Nat.beq i 0 <;> rfl
 ·rfl
theorem beq0 (m:Nat):Nat.beq m 0 = decide (m = 0):=by cases m <;> rfl
theorem tat_put:∀ (D:Nat) (t:TT) (i:Nat) (x:AV) (j:Nat),tat D (tput D t i x id) j = if j = i∧i < 2 ^ D then x else tat D t j
 | 0,t,i,x,j=>by
  rw [tput_0,beq0]
  by_cases hi:i = 0
  ·subst hi
   simp only [decide_true,cond_true,id,tat_0,beq0]
   by_cases hj:j = 0
   ·subst hj; simp [TT.leaf]
   ·simp [hj]
  ·have:¬ i < 1:=by omega
   simp [hi]
 | D+1,t,i,x,j=>by
  have hb:∀ m,Nat.beq (Nat.mod m 2) 0 = decide (m % 2 = 0):=fun m=>beq0 _
  have hd:∀ m,Nat.div m 2 = m / 2:=fun _=>rfl
  have n:∀ (a b:TT) q,tat (D+1) (.n a b) q = if q % 2 = 0 then tat D a (q / 2) else tat D b (q / 2):=fun a b q=>by
   rw [tat_n,hb,hd]
   by_cases h:q % 2 = 0 <;> simp [h]
  have key:∀ (a b:TT),(∀ q,tat (D+1) t q = if q % 2 = 0 then tat D a (q / 2) else tat D b (q / 2))→tat (D+1) (tputN (tput D) a b i x id) j = if j = i∧i < 2 ^ (D+1) then x else tat (D+1) t j:=fun a b ht=>by
   rw [ht]
   unfold tputN
   rw [hb,hd]
   by_cases hi:i % 2 = 0
   ·simp only [hi,decide_true,cond_true]
    rw [Vla D a _ x (fun a=>id (TT.n a b))]
    simp only [id]
    rw [n]
    by_cases hj:j % 2 = 0
    ·simp only [hj,if_true]
     rw [tat_put D a (i / 2) x (j / 2)]
     have:(j / 2 = i / 2∧i / 2 < 2 ^ D)↔(j = i∧i < 2 ^ (D+1)):=by rw [Nat.pow_succ]; omega
     simp only [this]
    ·have:¬ (j = i∧i < 2 ^ (D+1)):=by omega
     simp only [hj,if_false,this]
   ·simp only [hi,decide_false,cond_false]
    rw [Vla D b _ x (fun b=>id (TT.n a b))]
    simp only [id]
    rw [n]
    by_cases hj:j % 2 = 0
    ·have:¬ (j = i∧i < 2 ^ (D+1)):=by omega
     simp only [hj,if_true,this,if_false]
    ·simp only [hj,if_false]
     rw [tat_put D b (i / 2) x (j / 2)]
     have:(j / 2 = i / 2∧i / 2 < 2 ^ D)↔(j = i∧i < 2 ^ (D+1)):=by rw [Nat.pow_succ]; omega
     simp only [this]
  cases t with
  | e=>exact key .e .e fun q=>by simp only [tat_e]; split <;> rfl
  | l y=>exact key .e .e fun q=>by simp only [tat_e]; split <;> rfl
  | n a b=>exact key a b fun q=>n a b q
noncomputable def tfill {β:Type} (l:List AV) (i:Nat) (t:TT) (k:TT→β):β:=
 List.rec (motive:=fun _=>Nat→TT→(TT→β)→β) (fun _ t k=>k t) (fun x _ ih i t k=>frcW x fun x=>tput 8 t i x fun t=>frcN (i+1) fun i=>ih i t k) l i t k
def TMR (r:List Nat) (t:TT) (tm:List AV):Prop:=∀ k,uR r (tat 8 t k) (tm.getD k .any)
theorem TMR.put {r:List Nat} {t:TT} {tm:List AV} (h:TMR r t tm) {d:Nat} (hd:d < tm.length) (hl:tm.length≤256) {x y:AV} (k:uR r x y):TMR r (tput 8 t d x id) (tm.set d y):=fun j=>by
 rw [tat_put]
 by_cases hj:j = d
 ·subst hj
  rw [if_pos ⟨rfl,by omega⟩]
  simpa [List.getD,hd] using k
 ·rw [if_neg (by omega)]
  have:=h j
  simpa [List.getD,List.getElem?_set,Ne.symm hj] using this
theorem tfill_cons {β:Type} (x:AV) (l:List AV) (i:Nat) (t:TT) (k:TT→β):tfill (x :: l) i t k = tfill l (i+1) (tput 8 t i x id) k:=by
 show (frcW x fun x=>tput 8 t i x fun t=>frcN (i+1) fun i=>tfill l i t k) = _
 rw [frcW_eq,Vla 8 t i x (fun t=>frcN (i+1) fun i=>tfill l i t k),frcN_eq]
theorem tfill_eq {β:Type}:∀ (l:List AV) (i:Nat) (t:TT) (k:TT→β),tfill l i t k = k (tfill l i t id)
 | [],_,_,_=>rfl
 | x :: l,i,t,k=>by rw [tfill_cons,tfill_cons]; exact tfill_eq l _ _ k
theorem tfill_ok {r:List Nat} (m:Nat):∀ (l l':List AV) (pre:List AV) (t:TT),pre.length+l.length+m≤256→LR (uR r) l l'→TMR r t (pre++List.replicate (l.length+m) .any)→TMR r (tfill l pre.length t id) (pre++(l'++List.replicate m .any))
 | [],[],pre,t,_,_,h=>by simpa [tfill] using h
 | x :: l,y :: l',pre,t,hl,hr,h=>by
  simp only [List.length_cons] at hl h
  have h1:=h.put (d:=pre.length) (x:=x) (y:=y) (by simp; omega) (by simp; omega) hr.1
  have e1:(pre++List.replicate (l.length+1+m) AV.any).set pre.length y = (pre++[y])++List.replicate (l.length+m) .any:=by
   rw [List.set_append_right _ _ (by omega),Nat.sub_self,show l.length+1+m = (l.length+m)+1 by omega,List.replicate_succ]
   simp
  rw [e1] at h1
  have h2:=tfill_ok m l l' (pre++[y]) _ (by simp; omega) hr.2 h1
  have e2:pre.length+1 = (pre++[y]).length:=by simp
  rw [tfill_cons,e2]
  simpa using h2
theorem TMR.nil (r:List Nat) (n:Nat):TMR r .e (List.replicate n .any):=fun k=>by
 rw [tat_e]
 have:(List.replicate n AV.any).getD k .any = .any:=by
  simp only [List.getD,List.getElem?_replicate]
  split <;> rfl
 rw [this]; exact (Yea rfl).2 rfl
noncomputable def evq (tm:TT):Operand→AV
 | .tmp t=>tat 8 tm t
 | .const v=>Y3 v
 | .global _=>.any
 | .func f=>.fn (.func f) [] []
theorem ev_ok {r:List Nat} {tm:TT} {tm':List AV} (h:TMR r tm tm') (o:Operand):uR r (evq tm o) (ev tm' o):=by
 cases o with
 | tmp t=>exact h t
 | const v=>
  simp only [ev,evq]
  refine (Yea ?_).2 rfl
  cases v <;> try rfl
  simp only [Y3]
  split
  ·simp [closed,Vja,Kba]
  ·rfl
 | global n=>exact (rfl:_ = _)
 | func f=>exact (rfl:_ = _)
noncomputable def gwq (o:AO) (tm:TT):Option Bool:=
 match o.guard with
 | none=>some true
 | some (some t,want)=>match tat 8 tm t with
  | .val (.bool b)=>some (decide (b = want))
  | .val _=>some false
  | _=>none
 | some (none,_)=>none
structure VS where
 tm:TT
 sz:Nat
 n:Nat
 l:VH
noncomputable def vput (w:Bool) (s:VS) (d:Option Nat) (x:AV) (n:Nat) (l:VH):Option VS:=match d with
 | some d=>cond (Nat.ble (d+1) s.sz) (cond w (frcW x fun x=>tput 8 s.tm d x fun tm=>some ⟨tm,s.sz,n,l⟩) (frcA x fun x=>tput 8 s.tm d x fun tm=>some ⟨tm,s.sz,n,l⟩)) none
 | none=>some ⟨s.tm,s.sz,n,l⟩
inductive VX where
 | norm
 | exit (id:Nat)
 | ret
def VX.ax:VX→AX
 | .norm=>.norm
 | .exit n=>.exit n
 | .ret=>.ret
def rawOp:Op→Bool
 | .move _ | .assign _ | .pick .. | .load .. | .extract .. | .field ..=>true
 | .call ⟨.value _,_,_⟩=>true
 | _=>false
noncomputable def vop (T:Tab) (call:Jta) (o:AO) (s:VS):Option VS:=
 match gwq o s.tm with
 | some true=>match vresF T o.pure call o.op (evq s.tm) s.n s.l with
  | some (x,n,l)=>vput (rawOp o.op) s o.dst x n l
  | none=>none
 | some false=>vput true s o.dst (.val undef) s.n s.l
 | none=>none
noncomputable def vops (T:Tab) (call:Jta):List AO→VS→Option VS
 | [],s=>some s
 | o :: os,s=>match vop T call o s with
  | some s'=>vops T call os s'
  | none=>none
noncomputable def vplan (T:Tab) (call:Jta) (f:Nat→AO):Plan→VS→Option VS
 | .done,s=>some s
 | .op i p,s=>match vop T call (f i) s with
  | some s'=>vplan T call f p s'
  | none=>none
 | .both ..,_=>none
abbrev Fns:=Nat→Option (AC×List ResultVar×Nat)
noncomputable def vone (T:Tab) (tm:TT) (l:VH):ResultVar→Option AV
 | .tmp t=>some (tat 8 tm t)
 | .cell p t=>match tat 8 tm p with
  | .optr b sz i c=>match T t,vgq l b with
   | some ti,some o=>if o.sz = sz then match nthq o.rows i with
    | some row=>apart ti row c
    | none=>none else none
   | _,_=>none
  | _=>none
noncomputable def vall (T:Tab) (tm:TT) (l:VH):List ResultVar→Option (List AV)
 | []=>some []
 | q :: qs=>match vone T tm l q,vall T tm l qs with
  | some x,some xs=>match x with
   | .tup _=>none
   | x=>some (x :: xs)
  | _,_=>none
noncomputable def vouts (T:Tab) (rs:List ResultVar) (tm:TT) (l:VH):Option AV:=match vall T tm l rs with
 | some [x]=>some x
 | some xs=>some (.tup xs)
 | none=>none
noncomputable def vfn (T:Tab) (F:Fns) (run:AC→VS→Option (VX×VS)):Jta:=fun k args n l=>match F k with
 | some (ac,rs,nt)=>if args.length≤nt∧nt≤256 then tfill args 0 .e fun tm=>match run ac ⟨tm,nt,n,l⟩ with
  | some (.exit _,_)=>none
  | some (_,s)=>match vouts T rs s.tm s.l with
   | some x=>frcW x fun x=>if closed x then frcF (fun i=>Nat.ble (i+1) n) s.l fun l=>some (x,s.n,l) else some (x,s.n,s.l)
   | none=>none
  | none=>none else none
 | none=>none
noncomputable def vrun (T:Tab) (F:Fns):Nat→AC→VS→Option (VX×VS)
 | 0,_,_=>none
 | f+1,c,s=>match c with
  | .skip | .ghost=>some (.norm,s)
  | .reg os=>match vops T (vfn T F (vrun T F f)) os s with
   | some s'=>some (.norm,s')
   | none=>none
  | .draw os p=>match vplan T (vfn T F (vrun T F f)) (fun i=>os.getD i dfltO) p s with
   | some s'=>some (.norm,s')
   | none=>none
  | .seq a b=>match vrun T F f a s with
   | some (.norm,s')=>vrun T F f b s'
   | q=>q
  | .cond c a b=>match evq s.tm c with
   | .val (.bool t)=>if t = true then vrun T F f a s else vrun T F f b s
   | _=>none
  | .block id b=>match vrun T F f b s with
   | some (.exit m,s')=>if m = id then some (.norm,s') else some (.exit m,s')
   | q=>q
  | .loop b=>match vrun T F f b s with
   | some (.norm,s')=>vrun T F f (.loop b) s'
   | q=>q
  | .exit id=>some (.exit id,s)
  | .ret=>some (.ret,s)
  | .scope b=>vrun T F f b s
  | .range ..=>none
structure SR (h0:Hp) (r:List Nat) (s:VS) (t:St):Prop where
 tm:TMR r s.tm t.tm
 sz:t.tm.length = s.sz∧s.sz≤256
 rep:Rep h0 r s.n s.l t.h
def SX (h0:Hp) (r:List Nat) (x:VX) (s:VS):AX→St→Prop:=fun e t=>e = x.ax∧∃ r',Ext r r'∧SR h0 r' s t
def RunOK (P:Program) (T:Tab) (run:AC→VS→Option (VX×VS)):Prop:=∀ c s x s',run c s = some (x,s')→∀ h0 r t,SR h0 r s t→awp P T c (SX h0 r x s') t
section
variable {P:Program} {T:Tab} {r:List Nat} {h0:Hp}
theorem gw_ok {o:AO} {tm:TT} {tm':List AV} {b:Bool} (h:TMR r tm tm') (e:gwq o tm = some b):gw o tm' = some b:=by
 unfold gwq at e
 unfold gw
 split at e
 ·rename_i hg; simp only [hg]; exact e
 ·rename_i t want hg
  have q:=h t
  simp only [hg]
  generalize tm'.getD t .any = y at q ⊢
  split at e <;> try (cases e; done)
  ·rename_i hh; rw [hh] at q; rw [val_eq.1 q]; exact e
  ·rename_i v hnb hh; rw [hh] at q; rw [val_eq.1 q]
   cases e
   cases v <;> first | rfl | exact absurd rfl (hnb _)
 ·cases e
theorem vput_ok {w:Bool} {s s':VS} {d:Option Nat} {x y:AV} {n:Nat} {l:VH} {r':List Nat} {tm:List AV} {h:Hp} (hm:TMR r' s.tm tm) (hz:tm.length = s.sz∧s.sz≤256) (R:Rep h0 r' n l h) (k:uR r' x y) (e:vput w s d x n l = some s'):SR h0 r' s' ⟨put tm d y,h⟩:=by
 unfold vput at e
 cases d with
 | none=>cases e; exact ⟨hm,hz,R⟩
 | some d=>
  simp only [frcW_eq,frcA_eq] at e
  cases hb:Nat.ble (d+1) s.sz with
  | false=>rw [hb] at e; cases e
  | true=>
   rw [hb] at e
   have hd:d < tm.length:=by have:=Nat.le_of_ble_eq_true hb; omega
   have e1:s' = ⟨tput 8 s.tm d x id,s.sz,n,l⟩:=by
    simp only [cond_true] at e
    rw [Vla 8 s.tm d x (fun tm=>some (VS.mk tm s.sz n l))] at e
    cases w <;> (cases e; rfl)
   subst e1
   exact ⟨hm.put hd (by omega) k,⟨by simpa [put] using hz.1,hz.2⟩,R⟩
theorem vop_ok {call:Jta} (hc:CallOK P call) {o:AO} {s s':VS} {t:St} (R:SR h0 r s t) (e:vop T call o s = some s') {K:St→Prop} {X:AV→Hp→Prop} (hk:∀ r' t',Ext r r'→SR h0 r' s' t'→K t'):aOp P T o K X t:=by
 unfold vop at e
 simp only [vresF_eq] at e
 unfold aOp
 split at e <;> try (cases e; done)
 ·rename_i hg
  rw [gw_ok R.tm hg]
  split at e <;> try (cases e; done)
  rename_i x n l hr
  exact vres_ok hc (fun q=>ev_ok R.tm q) R.rep hr fun r' y h' a1 a2 a3=>hk r' _ a1 (vput_ok (fun j=>(R.tm j).ext a1) R.sz a3 a2 e)
 ·rename_i hg
  rw [gw_ok R.tm hg]
  exact hk r _ (Ext.refl r) (vput_ok R.tm R.sz R.rep (val_eq.2 rfl) e)
theorem vops_ok {call:Jta} (hc:CallOK P call) {K:St→Prop} {X:List AV→AV→Hp→Prop}:∀ (os:List AO) {r:List Nat} {s s':VS} {t:St},SR h0 r s t→vops T call os s = some s'→(∀ r' t',Ext r r'→SR h0 r' s' t'→K t')→aOps P T K X os t
 | [],r,s,s',t,R,e,hk=>by cases e; exact hk r t (Ext.refl r) R
 | o :: os,r,s,s',t,R,e,hk=>by
  simp only [vops] at e
  split at e <;> try (cases e; done)
  rename_i s1 h1
  exact vop_ok hc R h1 fun r1 t1 a1 R1=>vops_ok hc os R1 e fun r2 t2 a2=>hk r2 t2 (a1.trans a2)
theorem vplan_ok {call:Jta} (hc:CallOK P call) {f:Nat→AO} {K:St→Prop} {X:AV→Hp→Prop}:∀ (p:Plan) {r:List Nat} {s s':VS} {t:St},SR h0 r s t→vplan T call f p s = some s'→(∀ r' t',Ext r r'→SR h0 r' s' t'→K t')→Ypa P T f K X p t
 | .done,r,s,s',t,R,e,hk=>by cases e; exact hk r t (Ext.refl r) R
 | .op i p,r,s,s',t,R,e,hk=>by
  simp only [vplan] at e
  split at e <;> try (cases e; done)
  rename_i s1 h1
  exact vop_ok hc R h1 fun r1 t1 a1 R1=>vplan_ok hc p R1 e fun r2 t2 a2=>hk r2 t2 (a1.trans a2)
 | .both _ _,_,_,_,_,_,e,_=>by cases e
theorem vone_ok {s:VS} {t:St} (R:SR h0 r s t) {q:ResultVar} {x:AV} (e:vone T s.tm s.l q = some x):∃ y,Vpa T t.tm t.h q = some y∧uR r x y:=by
 cases q with
 | tmp k=>cases e; exact ⟨_,rfl,ev_ok R.tm (.tmp k)⟩
 | cell p ty=>
  have hp:=ev_ok R.tm (.tmp p)
  simp only [ev,evq] at hp
  simp only [vone,vgq_eq,nthq_eq] at e
  split at e <;> try (cases e; done)
  rename_i hq
  rw [hq] at hp
  obtain ⟨b',hb,w⟩:=hp
  split at e <;> try (cases e; done)
  rename_i ti o ht ho
  split at e <;> try (cases e; done)
  rename_i hsz
  split at e <;> try (cases e; done)
  rename_i row hrow
  obtain ⟨q1,o',q2,q3,q4,q5⟩:=R.rep.get ho hb
  obtain ⟨row',w1,w2⟩:=q5.get _ hrow
  obtain ⟨z',w3,w4⟩:=apart_ok w2 e
  refine ⟨z',?_,w4⟩
  simp only [Vpa,w,ht,q2,q3,hsz,w1,w3,if_true]
theorem vall_ok {s:VS} {t:St} (R:SR h0 r s t):∀ {qs:List ResultVar} {xs:List AV},vall T s.tm s.l qs = some xs→∃ ys,Yqa T t.tm t.h qs = some ys∧LR (vR r) xs ys∧LR (uR r) xs ys
 | [],xs,e=>by cases e; exact ⟨[],rfl,trivial,trivial⟩
 | q :: qs,xs,e=>by
  simp only [vall] at e
  split at e <;> try (cases e; done)
  rename_i x xs' h1 h2
  obtain ⟨y,a1,a2⟩:=vone_ok R h1
  obtain ⟨ys,b1,b2,b3⟩:=vall_ok R h2
  split at e <;> cases e
  rename_i hne
  refine ⟨y :: ys,by simp only [Yqa,a1,b1],⟨?_,b2⟩,a2,b3⟩
  cases x <;> first | exact a2 | exact absurd rfl (hne _)
theorem vouts_ok {s:VS} {t:St} (R:SR h0 r s t) {qs:List ResultVar} {x:AV} (e:vouts T qs s.tm s.l = some x):∃ y,Wm T qs t.tm t.h = some y∧uR r x y:=by
 unfold vouts at e
 unfold Wm
 split at e <;> cases e
 ·rename_i h1
  obtain ⟨ys,a,b,c⟩:=vall_ok R h1
  match ys,c with
  | [y],c=>exact ⟨y,by rw [a],c.1⟩
 ·rename_i xs hne h1
  obtain ⟨ys,a,b,c⟩:=vall_ok R h1
  refine ⟨.tup ys,?_,ys,rfl,b⟩
  rw [a]
  split
  ·rename_i y w
   cases w
   match xs,b,hne with
   | [x],_,hne=>exact absurd rfl (hne x)
  ·rename_i w; cases w; rfl
  ·rename_i w; cases w
def FnsOK (P:Program) (T:Tab) (F:Fns):Prop:=∀ k ac rs nt,F k = some (ac,rs,nt)→∀ args h Q,awp P T ac (retQ T rs Q) ⟨args++List.replicate (nt - args.length) .any,h⟩→Zo P k args h Q
theorem Zkb (p:Nat→Bool):∀ (l:VH) (b:Nat) (o:Ob),vget (l.filter fun q=>p q.1) b = some o→vget l b = some o
 | [],_,_,e=>e
 | (k,x) :: l,b,o,e=>by
  rw [List.filter_cons] at e
  simp only [vget,beq_iff_eq]
  split at e
  ·simp only [vget,beq_iff_eq] at e
   split at e
   ·rename_i q; rw [if_pos q]; exact e
   ·rename_i q; rw [if_neg q]; exact Zkb p l b o e
  ·rename_i hp
   have:=Zkb p l b o e
   by_cases hkb:k = b
   ·subst hkb
    have no:∀ (l:VH),vget (l.filter fun q=>p q.1) k = none:=by
     intro l
     induction l with
     | nil=>rfl
     | cons y l ih=>
      rw [List.filter_cons]
      split
      ·rename_i hy
       simp only [vget,beq_iff_eq]
       rw [if_neg]; exact ih
       intro q; rw [q] at hy; exact hp hy
      ·exact ih
    rw [no l] at e; cases e
   ·rw [if_neg hkb]; exact this
theorem vfn_ok {F:Fns} (hF:FnsOK P T F) {run:AC→VS→Option (VX×VS)} (hr:RunOK P T run):CallOK P (vfn T F run):=by
 intro k args n l x n' l' e h0 r h args' R ha
 unfold vfn at e
 simp only [frcW_eq,frcF_eq] at e
 split at e <;> try (cases e; done)
 rename_i ac rs nt hf
 split at e <;> try (cases e; done)
 rename_i hnt
 rw [tfill_eq] at e
 refine hF _ _ _ _ hf _ _ _ ?_
 have R0:SR h0 r ⟨tfill args 0 .e id,nt,n,l⟩ ⟨args'++List.replicate (nt - args'.length) .any,h⟩:=by
  have hl:=ha.len
  refine ⟨?_,⟨by simp; omega,hnt.2⟩,R⟩
  have:=tfill_ok (r:=r) (nt - args.length) args args' [] .e (by simp; omega) ha (by simpa using TMR.nil r _)
  rw [← hl]
  simpa using this
 split at e <;> try (cases e; done)
 rename_i ax s hne he
 refine Wl ac ?_ _ (hr _ _ _ _ he h0 r _ R0)
 rintro ee t ⟨rfl,r',x1,R'⟩
 split at e <;> try (cases e; done)
 rename_i z hx
 obtain ⟨y,a,b⟩:=vouts_ok R' hx
 have hl:x = z∧n' = s.n∧∀ b o,vget l' b = some o→vget s.l b = some o:=by
  split at e <;> cases e
  ·exact ⟨rfl,rfl,fun b o q=>Zkb (fun k=>Nat.ble (k+1) n) _ _ _ q⟩
  ·exact ⟨rfl,rfl,fun _ _ q=>q⟩
 obtain ⟨rfl,rfl,hl⟩:=hl
 cases ax
 case exit id=>exact absurd rfl (hne _)
 all_goals exact ⟨y,y,t.h,a,Zf.refl _ _,y,r',rfl,x1,b,R'.rep.less hl⟩
theorem vrun_le {F:Fns} (hF:FnsOK P T F):∀ f g,g≤f→RunOK P T (vrun T F g)
 | _,0,_=>fun c s x s' e=>by cases e
 | 0,g+1,h=>absurd h (by omega)
 | f+1,g+1,hg=>fun c s x s' e h0 r t R=>by
  obtain ⟨f,rfl⟩:∃ f',f = f':=⟨f,rfl⟩
  have ihs:=vrun_le hF f
  by_cases hlt:g+1≤f
  ·exact ihs _ hlt c s x s' e h0 r t R
  obtain rfl:g = f:=by omega
  have ih:=ihs g (Nat.le_refl _)
  have hc:=vfn_ok hF ih
  have e0:=e
  have here:SX h0 r .norm s .norm t:=⟨rfl,r,Ext.refl r,R⟩
  cases c <;> simp only [vrun] at e
  case skip=>cases e; exact here
  case ghost=>cases e; exact ⟨t,Xg.refl t,here⟩
  case reg os=>
   split at e <;> cases e
   rename_i s1 h1
   exact vops_ok hc os R h1 fun r' t' a R'=>⟨rfl,r',a,R'⟩
  case draw os p=>
   split at e <;> cases e
   rename_i s1 h1
   exact vplan_ok hc p R h1 fun r' t' a R'=>⟨rfl,r',a,R'⟩
  case seq a b=>
   refine Wl a (Q:=fun ax t'=>∃ x1 s1,vrun T F g a s = some (x1,s1)∧SX h0 r x1 s1 ax t') ?_ t ?_
   ·rintro ax t' ⟨x1,s1,h1,rfl,r',a1,R'⟩
    rw [h1] at e
    cases x1 with
    | norm=>
     simp only at e
     refine Wl b ?_ _ (ih _ _ _ _ e h0 r' _ R')
     rintro e2 t2 ⟨rfl,r2,a2,R2⟩
     exact ⟨rfl,r2,a1.trans a2,R2⟩
    | exit n=>cases e; exact ⟨rfl,r',a1,R'⟩
    | ret=>cases e; exact ⟨rfl,r',a1,R'⟩
   ·cases h1:vrun T F g a s with
    | none=>rw [h1] at e; cases e
    | some p=>exact Wl a (fun _ _ q=>⟨p.1,p.2,rfl,q⟩) t (ih _ _ p.1 p.2 h1 h0 r t R)
  case cond c a b=>
   have hq:=ev_ok R.tm c
   split at e <;> try (cases e; done)
   rename_i v hv
   rw [hv] at hq
   simp only [awp,val_eq.1 hq]
   split at e
   ·rename_i ht; rw [if_pos ht]; exact ih _ _ _ _ e h0 r t R
   ·rename_i ht; rw [if_neg ht]; exact ih _ _ _ _ e h0 r t R
  case block id b=>
   refine Wl b (Q:=fun ax t'=>∃ x1 s1,vrun T F g b s = some (x1,s1)∧SX h0 r x1 s1 ax t') ?_ t ?_
   ·rintro ax t' ⟨x1,s1,h1,rfl,r',a1,R'⟩
    rw [h1] at e
    cases x1 with
    | norm=>cases e; exact ⟨rfl,r',a1,R'⟩
    | exit n=>
     simp only at e
     show if n = id then SX h0 r x s' .norm t' else SX h0 r x s' (.exit n) t'
     split at e <;> cases e
     ·rename_i hn; rw [if_pos hn]; exact ⟨rfl,r',a1,R'⟩
     ·rename_i hn; rw [if_neg hn]; exact ⟨rfl,r',a1,R'⟩
    | ret=>cases e; exact ⟨rfl,r',a1,R'⟩
   ·cases h1:vrun T F g b s with
    | none=>rw [h1] at e; cases e
    | some p=>exact Wl b (fun _ _ q=>⟨p.1,p.2,rfl,q⟩) t (ih _ _ p.1 p.2 h1 h0 r t R)
  case loop b=>
   refine ⟨fun m t'=>∃ s1 r1,vrun T F m (.loop b) s1 = some (x,s')∧m≤g+1∧Ext r r1∧SR h0 r1 s1 t',⟨g+1,t,Xg.refl t,s,r,e0,Nat.le_refl _,Ext.refl r,R⟩,?_⟩
   rintro m t' ⟨s1,r1,e1,hm,a1,R1⟩
   cases m with
   | zero=>cases e1
   | succ m=>
    have ihm:=ihs m (by omega)
    simp only [vrun] at e1
    refine Wl b (Q:=fun ax t2=>∃ x1 s2,vrun T F m b s1 = some (x1,s2)∧SX h0 r1 x1 s2 ax t2) ?_ t' ?_
    ·rintro ax t2 ⟨x1,s2,h1,rfl,r2,a2,R2⟩
     rw [h1] at e1
     cases x1 with
     | norm=>exact ⟨m,t2,Nat.lt_succ_self m,Xg.refl t2,s2,r2,e1,by omega,a1.trans a2,R2⟩
     | exit n=>cases e1; exact ⟨rfl,r2,a1.trans a2,R2⟩
     | ret=>cases e1; exact ⟨rfl,r2,a1.trans a2,R2⟩
    ·cases h1:vrun T F m b s1 with
     | none=>rw [h1] at e1; cases e1
     | some p=>exact Wl b (fun _ _ q=>⟨p.1,p.2,rfl,q⟩) t' (ihm _ _ p.1 p.2 h1 h0 r1 t' R1)
  case exit id=>cases e; exact ⟨rfl,r,Ext.refl r,R⟩
  case ret=>cases e; exact ⟨rfl,r,Ext.refl r,R⟩
  case scope b=>exact ih _ _ _ _ e h0 r t R
  case range=>cases e
end
def callIx (ops:Array Oper):List Nat:=(List.range ops.size).filter fun i=>match ops[i]? with
 | some o=>Vya o.op
 | none=>false
def autoP (ops:Array Oper) (pu:List Nat):Nat→Array Bool→Plan
 | 0,_=>.done
 | f+1,listed=>match Region.ready .any ops listed with
  | []=>.done
  | [i]=>.op i (autoP ops pu f (listed.setIfInBounds i true))
  | is=>match is.find? (firstOK ops pu listed) with
   | some i=>.op i (autoP ops pu f (listed.setIfInBounds i true))
   | none=>.done
def annsC:Code→List (Nat×Ann)
 | .region k ops true=>[(k,{ pure:=callIx ops,plan:=autoP ops (callIx ops) ops.size (Array.replicate ops.size false) })]
 | .seq a b=>annsC a++annsC b
 | .cond _ a b=>annsC a++annsC b
 | .block _ b | .loop b | .scope b=>annsC b
 | _=>[]
def annOf:List (Nat×Ann)→Nat→Ann
 | [],_=>{}
 | (k,a) :: l,i=>cond (Nat.beq k i) a (annOf l i)
def fnAt (P:Program):Fns:=fun k=>match P.funcs[k]? with
 | some fn=>match fn.body with
  | some c=>match slim (annOf (annsC c)) c with
   | some ac=>if (fn.name == "runtime.NumGoroutine") = false then some (ac,fn.results.toList,fn.ntmps) else none
   | none=>none
  | none=>none
 | none=>none
theorem fnAt_ok {P:Program} {T:Tab} (hT:Kb P T) (hmix:P.follows .mixedOrders = true):FnsOK P T (fnAt P):=by
 intro k ac rs nt e args h Q H
 unfold fnAt at e
 split at e <;> try (cases e; done)
 rename_i fn hf
 split at e <;> try (cases e; done)
 rename_i c hb
 split at e <;> try (cases e; done)
 rename_i ac' hs
 split at e <;> cases e
 rename_i hn
 exact acalls_of hT hmix hf hb hn hs rfl rfl H
def frzL:List AV→VH→Option (List AV)
 | [],_=>some []
 | .osl b sz off len :: cs,l=>match vget l b with
  | some o=>if o.sz = sz∧off+len≤o.rows.length∧o.rows.all (·.all Kba) = true then match frzL cs (vdel l b) with
   | some zs=>some (.isl sz ((o.rows.drop off).take len) :: zs)
   | none=>none else none
  | none=>none
 | x :: cs,l=>if Kba x then match frzL cs l with
  | some zs=>some (x :: zs)
  | none=>none else none
def frzT:List AV→VH→Option (List AV)
 | [],_=>some []
 | .osl b sz off len :: cs,l=>match vget l b with
  | some o=>if o.sz = sz∧off+len≤o.rows.length∧o.rows.all (·.all Kba) = true then match frzT cs (vdel l b) with
   | some zs=>some (.isl sz ((o.rows.drop off).take len) :: zs)
   | none=>none else none
  | none=>none
 | x :: cs,l=>if Vja x then match frzT cs l with
  | some zs=>some (x :: zs)
  | none=>none else none
def frz (x:AV) (l:VH):Option AV:=match x with
 | .tup cs=>match frzT cs l with
  | some zs=>some (.tup zs)
  | none=>none
 | .agg cs=>match frzL cs l with
  | some zs=>some (.agg zs)
  | none=>none
 | .osl b sz off len=>match vget l b with
  | some o=>if o.sz = sz∧off+len≤o.rows.length∧o.rows.all (·.all Kba) = true then some (.isl sz ((o.rows.drop off).take len)) else none
  | none=>none
 | _=>none
section
variable {P:Program} {T:Tab} {r:List Nat} {h0 h:Hp} {n:Nat} {l:VH}
theorem freeze_ok (R:Rep h0 r n l h) {b sz off len:Nat} {o:Ob} {b':Nat} (hb:r[b]? = some b') (ho:vget l b = some o) (h1:o.sz = sz) (h2:off+len≤o.rows.length) (h3:o.rows.all (·.all Kba) = true) :
  Zf (.osl b' sz off len) h (.isl sz ((o.rows.drop off).take len)) (h.del b')∧Rep h0 r n (vdel l b) (h.del b'):=by
 obtain ⟨q1,o',q2,q3,q4,q5⟩:=R.get ho hb
 have e:o'.rows = o.rows:=(LR.eqs (fun ro:List AV=>ro.all Kba) (fun _ _ hp=>LR.eqs Kba (fun _ _=>Wja) hp) h3).1 q5
 have:=Zf.freeze (len:=len) (off:=off) q2 (q3.trans h1) (by rw [e]; exact h2)
 rw [e] at this
 exact ⟨this,R.del ho hb⟩
theorem frzL_ok:∀ (cs:List AV) {l:VH} {h:Hp} {ys zs:List AV} (pre:List AV),Rep h0 r n l h→LR (cR r) cs ys→frzL cs l = some zs→∃ h',h0.sub h'∧Zf (.agg (pre++ys)) h (.agg (pre++zs)) h'
 | [],l,h,ys,zs,pre,R,hl,e=>by
  cases ys with
  | cons=>exact hl.elim
  | nil=>cases e; exact ⟨h,R.sub,Zf.refl _ _⟩
 | c :: cs,l,h,ys,zs,pre,R,hl,e=>by
  cases ys with
  | nil=>exact hl.elim
  | cons y ys=>
   have one:∀ {z:AV} {zs':List AV} {l1:VH} {h1:Hp},Zf y h z h1→Rep h0 r n l1 h1→frzL cs l1 = some zs'→zs = z :: zs'→∃ h',h0.sub h'∧Zf (.agg (pre++y :: ys)) h (.agg (pre++zs)) h':=by
    intro z zs' l1 h1 hs R1 e1 e2
    subst e2
    obtain ⟨h',a,b⟩:=frzL_ok cs (pre++[z]) R1 hl.2 e1
    exact ⟨h',a,(Zf.agg hs pre ys).trans (by simpa using b)⟩
   unfold frzL at e
   split at e <;> try (cases e; done)
   ·rename_i q; cases q
   ·rename_i q
    cases q
    obtain ⟨b',hb,rfl⟩:=hl.1
    split at e <;> try (cases e; done)
    rename_i o ho
    split at e <;> try (cases e; done)
    rename_i hc
    split at e <;> cases e
    rename_i e1
    obtain ⟨a1,a2⟩:=freeze_ok R hb ho hc.1 hc.2.1 hc.2.2
    exact one a1 a2 e1 rfl
   ·rename_i q
    cases q
    split at e <;> try (cases e; done)
    rename_i hc
    split at e <;> cases e
    rename_i e1
    rw [(Wja hc).1 hl.1] at one ⊢
    exact one (Zf.refl _ _) R e1 rfl
theorem frzT_ok:∀ (cs:List AV) {l:VH} {h:Hp} {ys zs:List AV} (pre:List AV),Rep h0 r n l h→LR (vR r) cs ys→frzT cs l = some zs→∃ h',h0.sub h'∧X8 h h' (pre++ys) (pre++zs)
 | [],l,h,ys,zs,pre,R,hl,e=>by
  cases ys with
  | cons=>exact hl.elim
  | nil=>cases e; exact ⟨h,R.sub,X8.refl _ _⟩
 | c :: cs,l,h,ys,zs,pre,R,hl,e=>by
  cases ys with
  | nil=>exact hl.elim
  | cons y ys=>
   have one:∀ {z:AV} {zs':List AV} {l1:VH} {h1:Hp},Zf y h z h1→Rep h0 r n l1 h1→frzT cs l1 = some zs'→zs = z :: zs'→∃ h',h0.sub h'∧X8 h h' (pre++y :: ys) (pre++zs):=by
    intro z zs' l1 h1 hs R1 e1 e2
    subst e2
    obtain ⟨h',a,b⟩:=frzT_ok cs (pre++[z]) R1 hl.2 e1
    exact ⟨h',a,(X8.at hs pre ys).trans (by simpa using b)⟩
   unfold frzT at e
   split at e <;> try (cases e; done)
   ·rename_i q; cases q
   ·rename_i q
    cases q
    obtain ⟨b',hb,rfl⟩:=hl.1
    split at e <;> try (cases e; done)
    rename_i o ho
    split at e <;> try (cases e; done)
    rename_i hc
    split at e <;> cases e
    rename_i e1
    obtain ⟨a1,a2⟩:=freeze_ok R hb ho hc.1 hc.2.1 hc.2.2
    exact one a1 a2 e1 rfl
   ·rename_i q
    cases q
    split at e <;> try (cases e; done)
    rename_i hc
    split at e <;> cases e
    rename_i e1
    rw [(Kza hc).1 hl.1] at one ⊢
    exact one (Zf.refl _ _) R e1 rfl
theorem frz_ok (R:Rep h0 r n l h) {x y z:AV} (hx:uR r x y) (e:frz x l = some z):∃ h',h0.sub h'∧Zf y h z h':=by
 unfold frz at e
 split at e <;> try (cases e; done)
 ·obtain ⟨ys,rfl,hl⟩:=hx
  split at e <;> cases e
  rename_i e1
  obtain ⟨h',a,b⟩:=frzT_ok _ [] R hl e1
  exact ⟨h',a,Zf.tup b⟩
 ·obtain ⟨ys,rfl,hl⟩:=hx
  split at e <;> cases e
  rename_i e1
  exact frzL_ok _ [] R hl e1
 ·obtain ⟨b',hb,rfl⟩:=hx
  split at e <;> try (cases e; done)
  rename_i o ho
  split at e <;> cases e
  rename_i hc
  obtain ⟨a1,a2⟩:=freeze_ok R hb ho hc.1 hc.2.1 hc.2.2
  exact ⟨_,a2.sub,a1⟩
noncomputable def vfin (T:Tab) (F:Fns) (f k:Nat) (args:List AV):Option AV:=if args.all closed then match vfn T F (vrun T F f) k args 0 [] with
 | some (x,_,l)=>if closed x then some x else frz x l
 | none=>none else none
theorem J0 {F:Fns} (hF:FnsOK P T F) {f k:Nat} {args:List AV} {z:AV} (e:vfin T F f k args = some z):Kya P k args z:=by
 unfold vfin at e
 split at e <;> try (cases e; done)
 rename_i ha
 split at e <;> try (cases e; done)
 rename_i x m l he
 have hc:=vfn_ok hF (vrun_le hF f f (Nat.le_refl f))
 split at e
 ·rename_i hx
  cases e
  exact hc.pure he ha hx
 ·intro h
  have H:=hc _ _ _ _ _ _ _ he h [] h args (Rep.nil h) ((closeds_eq ha).2 rfl)
  refine ⟨H.1,fun g w vs hv hh=>(H.2 g w vs hv hh).mono ?_⟩
  rintro ee w' ⟨g',h',E,a,b,⟨y,r',rfl,_,u,R⟩,d⟩
  obtain ⟨h2,s1,s2⟩:=frz_ok R u e
  cases ee with
  | returned v=>
   obtain ⟨g2,c1,c2,c3⟩:=s2 g' w' v b d
   exact ⟨g2,h,.ret z,a.trans c1,c2.forget s1,⟨rfl,rfl⟩,c3⟩
  | panicked c=>exact d.elim
  | outgrown=>exact d.elim
end
end Go.Proofs.YtpkhmfedaaoalaaGreatDoor.AM
namespace Go.Proofs.YtpkhmfedaaoalaaGreatDoor
open Go Go.Proofs.YtpkhmfedaaoalaaGreatDoor.AM
theorem ok_of {n:Nat} {args:List AV} {ρ:Type} {enc:ρ→AV} {Q:ρ→Prop} (h:∃ r,Kya Tryz.prog n args (enc r)∧Q r) (h0:Hp):Zo Tryz.prog n args h0 (Back h0 enc Q):=by
 obtain ⟨l,h,q⟩:=h
 exact (h h0).mono fun e h' ⟨a,b⟩=>⟨l,a,b,q⟩
abbrev Z3a:Nat:=34
def Xc.w (a:ByteArray) (Q:((List Za)×Int×Int)→Prop):Prop:=∃ r:((List Za)×Int×Int),Kya Tryz.prog Z3a [astr a] (.tup [(.isl 4 (r.1.map Za.enc)),(aint r.2.1),(aint r.2.2)])∧Q r
theorem Xc.ok {a:ByteArray} {Q:((List Za)×Int×Int)→Prop} (hm:Xc.w a Q) (h0:Hp):Zo Tryz.prog Z3a [astr a] h0 (Back h0 (fun r=>.tup [(.isl 4 (r.1.map Za.enc)),(aint r.2.1),(aint r.2.2)]) Q):=ok_of hm h0
abbrev Wxa:Nat:=35
def Wb.w (a:List Za) (Q:((List Za)×Int)→Prop):Prop:=∃ r:((List Za)×Int),Kya Tryz.prog Wxa [(.isl 4 (a.map Za.enc))] (.tup [(.isl 4 (r.1.map Za.enc)),(aint r.2)])∧Q r
theorem Wb.ok {a:List Za} {Q:((List Za)×Int)→Prop} (hm:Wb.w a Q) (h0:Hp):Zo Tryz.prog Wxa [(.isl 4 (a.map Za.enc))] h0 (Back h0 (fun r=>.tup [(.isl 4 (r.1.map Za.enc)),(aint r.2)]) Q):=ok_of hm h0
abbrev Wwa:Nat:=36
def Wa.w (a:List Za) (Q:((List Ze)×Int)→Prop):Prop:=∃ r:((List Ze)×Int),Kya Tryz.prog Wwa [(.isl 4 (a.map Za.enc))] (.tup [(.isl 3 (r.1.map Ze.enc)),(aint r.2)])∧Q r
theorem Wa.ok {a:List Za} {Q:((List Ze)×Int)→Prop} (hm:Wa.w a Q) (h0:Hp):Zo Tryz.prog Wwa [(.isl 4 (a.map Za.enc))] h0 (Back h0 (fun r=>.tup [(.isl 3 (r.1.map Ze.enc)),(aint r.2)]) Q):=ok_of hm h0
abbrev Jk:Nat:=18
def Wr.w (Q:Zg→Prop):Prop:=∃ m:Zg,Kya Tryz.prog Jk [] (.agg (Zg.enc m))∧Q m
theorem Wr.ok {Q:Zg→Prop} (hm:Wr.w Q) (h0:Hp):Zo Tryz.prog Jk [] h0 (Back h0 (fun r=>(.agg (Zg.enc r))) Q):=ok_of hm h0
theorem Xca:FnsOK Tryz.prog tab (fnAt Tryz.prog):=fnAt_ok tab_ok mixed
end Go.Proofs.YtpkhmfedaaoalaaGreatDoor
