/- ItemsGlues: a part of its proof (packed by a program). -/
import Derived.Test.YtpkhmfedaaoalaaGreatDoorLie
import Derived.Test.YtpkhmfedaaoalaaGreatDoorRows
import Derived.WalkKit
import Derived.ProofKit
import Derived.OpenShut
import Derived.ShutString
import Derived.ChangeOld
import Derived.Below
import Derived.SizedLaws
import Derived.Carry
import Derived.Test.YtpkhmfedaaoalaaGreatDoorPln
import Derived.LaidMore
import Derived.SevenTiedAt
import Derived.Stop.Joined
set_option linter.all false
namespace Go.Proofs.YtpkhmfedaaoalaaGreatDoor.AM
open Go Go.ChangeShapes Go.WideShapes Go.ChangeAt Go.RowKit
inductive Ty where
 | bool
 | int (k:IntKind)
 | str
 | slice (sz bytes:Nat) (e:Ty)
 | struct (fs:List Ty)
 | arr (n:Nat) (e:Ty)
mutual
def Ty.cells:Ty→Nat
 | .bool | .int _ | .str | .slice ..=>1
 | .struct fs=>Ty.cellsAll fs
 | .arr n e=>n * e.cells
def Ty.cellsAll:List Ty→Nat
 | []=>0
 | f :: fs=>f.cells+Ty.cellsAll fs
end
mutual
def Ty.okFor (P:Program):Ty→TypeId→Bool
 | .bool,t=>match P.underlying t with | some .bool=>true | _=>false
 | .int k,t=>match P.underlying t with | some (.int k')=>k' == k | _=>false
 | .str,t=>match P.underlying t with | some .string=>true | _=>false
 | .slice sz bytes e,t=>match P.underlying t with
  | some (.slice u)=>e.okFor P u && P.cellsOf u == sz && P.bytesOf u == bytes && Nat.blt 0 sz
  | _=>false
 | .struct fs,t=>match P.underlying t with
  | some (.struct us)=>Ty.okAll P fs 0 us.toList && P.cellsOf t == Ty.cellsAll fs
  | _=>false
 | .arr n e,t=>match P.underlying t with
  | some (.array n' u)=>n' == n && e.okFor P u && P.cellsOf u == e.cells && P.cellsOf t == n * e.cells
  | _=>false
def Ty.okAll (P:Program):List Ty→Nat→List Field→Bool
 | [],_,[]=>true
 | f :: fs,o,u :: us=>f.okFor P u.type && u.offset == o && P.cellsOf u.type == f.cells && Ty.okAll P fs (o+f.cells) us
 | _,_,_=>false
end
mutual
def Ty.has:Ty→List AV→Prop
 | .bool,xs=>∃ b,xs = [Zk b]
 | .int k,xs=>∃ n,xs = [.val (.int k n)]∧(Lit.int k n).wf = true
 | .str,xs=>∃ s:ByteArray,xs = [astr s]∧s.size≤reachBytes
 | .slice sz bytes e,xs=>∃ rows,xs = [.isl sz rows]∧rows.length * bytes≤reachBytes∧rows.length≤maxLen∧∀ r∈rows,e.has r
 | .struct fs,xs=>Ty.hasAll fs xs
 | .arr n e,xs=>∃ rows:List (List AV),rows.length = n∧xs = rows.flatten∧∀ r∈rows,e.has r
def Ty.hasAll:List Ty→List AV→Prop
 | [],xs=>xs = []
 | f :: fs,xs=>∃ a b,xs = a++b∧f.has a∧Ty.hasAll fs b
end
def gW (W:World):Gh:={ w0:=W,fz:=fun b=>W.heap[b]?,shp:=fun b=>W.shape? b }
theorem gW_HR (W:World) (hg:Glob fun b=>W.heap[b]?):HR (gW W) Hp.nil W:=
 {os:=rfl,tape:=rfl,output:=rfl,size:=Nat.le_refl _,fz:=fun _ _ h=>h,shp:=fun _ _ h=>h,ob:=fun _ _ h=>(by cases h),gl:=hg,raw:=fun _ _ h=>(by cases h) }
theorem gW_below {W W':World} {g:Gh} {h:Hp} (hg:(gW W).le g) (hh:HR g h W'):Below W.heap.size W W':=
 {os:=by rw [hh.os,hg.w0]; rfl
  tape:=by rw [hh.tape,hg.w0]; rfl
  output:=by rw [hh.output,hg.w0]; rfl
  size:=by have:=hh.size; rw [hg.w0] at this; exact this
  block:=fun k hk=>by
   have e:(gW W).fz k = some W.heap[k]:=by simp [gW,hk]
   rw [hh.fz _ _ (hg.fz _ _ e)]; simp [hk] }
theorem Yeb {g:Gh}:∀ {xs:List AV} {cs:List Value} {c:Array Value} {o:Nat},VRs g xs cs→(∀ v∈cs,v.oneCell' = true)→(∀ i,i < cs.length→c[o+i]? = cs[i]?)→Zp g c o xs
 | [],_,_,_,_,_,_=>by simp [Zp]
 | x :: xs,[],_,_,h,_,_=>by simp [VRs] at h
 | x :: xs,v :: cs,c,o,h,h1,hc=>by
  simp only [VRs] at h
  simp only [Zp]
  refine ⟨⟨v,by simpa using hc 0 (by simp),h1 v (by simp),h.1⟩,Yeb h.2 (fun u hu=>h1 u (by simp [hu])) fun i hi=>?_⟩
  have:=hc (i+1) (by simp; omega)
  rw [show o+1+i = o+(i+1) by omega,this]; simp
theorem vrs_split {g:Gh}:∀ {xs:List AV} {cs:List Value} (n:Nat),VRs g xs (cs.take n)→∀ {ys},VRs g ys (cs.drop n)→VRs g (xs++ys) cs:=by
 intro xs cs n h ys k
 have:=VRs.append h k
 rwa [List.take_append_drop] at this
section
variable {H:Type} {enc:TypeId×Value→H} {P:Program} {W:World}
mutual
theorem Zjb {e:TypeId}:∀ (ds:List (DataW H)) (i:Nat) (d:DataW H),ds[i]? = some d→∀ x∈d.weights P e,x∈DataW.weightsAll P e ds
 | d' :: ds,0,d,h,x,hx=>by
  simp at h; subst h
  simp [DataW.weightsAll,hx]
 | d' :: ds,i+1,d,h,x,hx=>by
  simp only [DataW.weightsAll,List.mem_append]
  exact .inr (Zjb ds i d (by simpa using h) x hx)
end
theorem isl_of {n:Nat} {e:TypeId} {ty:Ty} {a:Addr} {len cap sz:Nat} {elems:List (DataW H×List MemPlace)} (hsz:P.cellsOf e = sz) (h0:0 < sz) (hlc:len≤cap) (hel:elems.length = len)
  (hg:∀ i,i < len→(W.cells? 0 (a.add (i * P.cellsOf e)) (P.cellsOf e)).bind (DataW.trod enc P W 0 (fun _=>true) true n e) = elems[i]?)
  (ih:∀ (cs:List Value) (x:DataW H×List MemPlace),x∈elems→DataW.trod enc P W 0 (fun _=>true) true n e cs = some x→∃ xs,ty.has xs∧VRs (gW W) xs cs∧∀ v∈cs,v.oneCell' = true) :
  ∃ rows:List (List AV),rows.length = len∧(∀ r∈rows,ty.has r)∧VR (gW W) (.isl sz rows) (.slice (some a) len cap):=by
 subst hsz
 have row:∀ i,i < len→∃ cs xs,W.cells? 0 (a.add (i * P.cellsOf e)) (P.cellsOf e) = some cs∧ty.has xs∧VRs (gW W) xs cs∧∀ v∈cs,v.oneCell' = true:=by
  intro i hi
  have hi':i < elems.length:=by omega
  have hgi:=hg i hi
  rw [List.getElem?_eq_getElem hi'] at hgi
  obtain ⟨cs,hcs,ht⟩:=Option.bind_eq_some_iff.1 hgi
  obtain ⟨xs,h1,h2,h3⟩:=ih cs _ (List.getElem_mem hi') ht
  exact ⟨cs,xs,hcs,h1,h2,h3⟩
 by_cases hl:len = 0
 ·subst hl
  exact ⟨[],rfl,by simp,by simp only [VR]; exact ⟨some a,cap,rfl,by simp,.inl trivial⟩⟩
 obtain ⟨c,ty0,fr,hb,hs⟩:∃ c ty0 fr,W.heap[a.block]? = some (.cells c ty0 fr)∧a.spot = none:=by
  obtain ⟨cs,xs,hcs,_,_,_⟩:=row 0 (by omega)
  obtain ⟨_,hlen,hc⟩:=World.cells?_some hcs
  have h1:=hc 0 h0
  rw [List.getElem?_eq_getElem (by omega:0 < cs.length)] at h1
  rw [Nat.zero_mul,show (a.add 0).add 0 = a by simp [Addr.add]] at h1
  simp only [World.cell?] at h1
  split at h1
  ·rename_i c t fr hb
   refine ⟨c,t,fr,hb,?_⟩
   cases hsp:a.spot with
   | none=>rfl
   | some _=>rw [hsp] at h1; simp at h1
  ·cases h1
 have rows:∀ m,m≤len→∃ rows:List (List AV),rows.length = m∧∀ i r,rows[i]? = some r→ty.has r∧r.length = P.cellsOf e∧Zp (gW W) c (a.off+i * P.cellsOf e) r:=by
  intro m
  induction m with
  | zero=>intro _; exact ⟨[],rfl,by simp⟩
  | succ m ihm=>
   intro hm
   obtain ⟨rows,hr,hrows⟩:=ihm (by omega)
   obtain ⟨cs,xs,hcs,h1,h2,h3⟩:=row m (by omega)
   obtain ⟨_,hlen,hc⟩:=World.cells?_some hcs
   refine ⟨rows++[xs],by simp [hr],fun i r hi=>?_⟩
   rw [List.getElem?_append] at hi
   split at hi
   ·exact hrows i r hi
   ·rename_i hge
    have him:i = m:=by
     have:=(List.getElem?_eq_some_iff.1 hi).1
     simp at this; omega
    subst him
    rw [hr] at hi; simp at hi; subst hi
    refine ⟨h1,by rw [VRs.length h2,hlen],Yeb h2 h3 fun k hk=>?_⟩
    have:=hc k (by omega)
    rw [← this]
    have e1:(a.add (i * P.cellsOf e)).add k = ⟨a.block,a.off+i * P.cellsOf e+k,none⟩:=by
     obtain ⟨ab,ao,asp⟩:=a
     simp only at hs; subst hs
     simp only [Addr.add]
     split <;> split <;> simp_all
    rw [e1]; simp [World.cell?,hb]
 obtain ⟨rows,hr,hrows⟩:=rows len (Nat.le_refl _)
 refine ⟨rows,hr,fun r hm=>?_,?_⟩
 ·obtain ⟨i,hi,rfl⟩:=List.mem_iff_getElem.1 hm
  exact (hrows i _ (List.getElem?_eq_getElem hi)).1
 ·simp only [VR]
  refine ⟨some a,cap,by rw [hr],by omega,.inr ⟨a,c,ty0,fr,rfl,hs,hb,Z0.of_get fun i r hi=>(hrows i r hi).2⟩⟩
mutual
theorem Wca:∀ (ty:Ty) (fuel:Nat) (t:TypeId) (cs:List Value) (x:DataW H×List MemPlace),DataW.trod enc P W 0 (fun _=>true) true fuel t cs = some x→ty.okFor P t = true →
  (∀ n∈x.1.weights P t,n≤reachBytes)→∃ xs,ty.has xs∧VRs (gW W) xs cs∧∀ v∈cs,v.oneCell' = true
 | .bool,fuel,t,cs,x,h,hk,hw=>by
  have ht:P.underlying t = some .bool:=by
   simp only [Ty.okFor] at hk; split at hk
   ·assumption
   ·cases hk
  obtain ⟨b,rfl,-⟩:=DataW.trod_bool ht h
  exact ⟨[Zk b],⟨b,rfl⟩,by simp [VRs,VR,Zk],by simp [Value.oneCell']⟩
 | .int k,fuel,t,cs,x,h,hk,hw=>by
  have ht:P.underlying t = some (.int k):=by
   simp only [Ty.okFor] at hk; split at hk
   ·rename_i e; rw [e]; simp at hk; rw [hk]
   ·cases hk
  obtain ⟨n,rfl,-,hn⟩:=DataW.trod_int ht h
  exact ⟨[.val (.int k n)],⟨n,rfl,hn⟩,by simp [VRs,VR],by simp [Value.oneCell']⟩
 | .str,fuel,t,cs,x,h,hk,hw=>by
  have ht:P.underlying t = some .string:=by
   simp only [Ty.okFor] at hk; split at hk
   ·assumption
   ·cases hk
  obtain ⟨s,rfl,rfl,-⟩:=DataW.trod_string ht h
  exact ⟨[astr s],⟨s,rfl,by have:=hw s.data.toList.length (by simp [DataW.weights]); simpa using this⟩,by simp [VRs,VR,astr],by simp [Value.oneCell']⟩
 | .slice sz bytes e,fuel,t,cs,x,h,hk,hw=>by
  simp only [Ty.okFor] at hk
  split at hk
  ·rename_i u ht
   simp only [Bool.and_eq_true,beq_iff_eq,Nat.blt_eq] at hk
   obtain ⟨⟨⟨hk1,hk2⟩,hk3⟩,hk4⟩:=hk
   rcases DataW.trod_slice ht h with ⟨rfl,rfl⟩ | ⟨a,len,cap,elems,rest,n,rfl,rfl,rfl,_,hlc,hmax,hel,hg,_,_⟩
   ·refine ⟨[.isl sz []],⟨[],rfl,by simp [reachBytes],by simp,by simp⟩,?_,by simp [Value.oneCell']⟩
    simp only [VRs,VR,and_true]
    exact ⟨none,0,rfl,by simp,.inl trivial⟩
   ·obtain ⟨rows,hr,hrows,hv⟩:=isl_of (W:=W) (ty:=e) hk2 hk4 hlc hel hg fun cs x hx hxt=>
     Wca e n u cs x hxt hk1 fun m hm=>hw m (by
      obtain ⟨i,hi,rfl⟩:=List.mem_iff_getElem.1 hx
      simp only [DataW.weights,ht,List.mem_cons,List.mem_append]
      exact .inr (.inl (Zjb _ i _ (by simp [hi]) m hm)))
    refine ⟨[.isl sz rows],⟨rows,rfl,?_,by omega,hrows⟩,by simp only [VRs,and_true]; exact hv,by simp [Value.oneCell']⟩
    have:=hw _ (by simp only [DataW.weights,ht]; exact List.mem_cons_self)
    simp only [List.length_map] at this
    rw [hk3] at this
    refine Nat.le_trans (Nat.mul_le_mul_right _ ?_) this
    omega
  ·cases hk
 | .struct fs,fuel,t,cs,x,h,hk,hw=>by
  simp only [Ty.okFor] at hk
  split at hk
  ·rename_i us ht
   simp only [Bool.and_eq_true,beq_iff_eq] at hk
   obtain ⟨xs,n,rfl,rfl,hlen,hxl,hf⟩:=DataW.trod_struct ht h
   have:=J0a fs n us.toList xs 0 cs hk.1 (by rw [hlen,hk.2]; omega) (by simpa using hxl) (fun i f hi=>hf i f (by simpa using hi)) (fun m hm=>hw m (by simpa [DataW.weights,ht] using hm))
   simpa [Ty.has] using this
  ·cases hk
 | .arr n e,fuel,t,cs,x,h,hk,hw=>by
  simp only [Ty.okFor] at hk
  split at hk
  ·rename_i n' u ht
   simp only [Bool.and_eq_true,beq_iff_eq] at hk
   obtain ⟨⟨⟨rfl,hk1⟩,hk2⟩,hk3⟩:=hk
   obtain ⟨xs,m,rfl,rfl,hlen,hxl,hf⟩:=DataW.trod_array ht h
   have row:∀ k,k≤n'→∃ rows:List (List AV),rows.length = n' - k∧(∀ r∈rows,e.has r)∧VRs (gW W) rows.flatten (cs.drop (k * e.cells))∧∀ v∈cs.drop (k * e.cells),v.oneCell' = true:=by
    intro k hk
    induction hd:n' - k generalizing k with
    | zero=>
     have:k = n':=by omega
     subst this
     have:cs.drop (k * e.cells) = []:=List.drop_eq_nil_of_le (by rw [hlen,hk3]; exact Nat.le_refl _)
     exact ⟨[],rfl,by simp,by rw [this]; simp [VRs],by rw [this]; simp⟩
    | succ j ih=>
     obtain ⟨rows,hr,hrows,hv,h1⟩:=ih (k+1) (by omega) (by omega)
     have hik:k < xs.length:=by omega
     have hfk:=hf k (by omega)
     rw [List.getElem?_eq_getElem hik,hk2] at hfk
     obtain ⟨ys,g1,g2,g3⟩:=Wca e m u _ _ hfk hk1 (fun q hq=>hw q (by
      simp only [DataW.weights,ht]
      exact Zjb _ k _ (by simp [hik]) q hq))
     refine ⟨ys :: rows,by simp [hr],by simp; exact ⟨g1,hrows⟩,?_,?_⟩
     ·simp only [List.flatten_cons]
      refine vrs_split e.cells g2 ?_
      rw [List.drop_drop,show k * e.cells+e.cells = (k+1) * e.cells by rw [Nat.succ_mul]]; exact hv
     ·intro v hv'
      rw [← List.take_append_drop e.cells (cs.drop (k * e.cells)),List.mem_append] at hv'
      rcases hv' with hv' | hv'
      ·exact g3 v hv'
      ·refine h1 v ?_
       rwa [List.drop_drop,show k * e.cells+e.cells = (k+1) * e.cells by rw [Nat.succ_mul]] at hv'
   obtain ⟨rows,hr,hrows,hv,h1⟩:=row 0 (by omega)
   simp only [Nat.zero_mul,List.drop_zero] at hv h1
   exact ⟨rows.flatten,⟨rows,by omega,rfl,hrows⟩,hv,h1⟩
  ·cases hk
theorem J0a:∀ (fs:List Ty) (n:Nat) (us:List Field) (xs:List (DataW H×List MemPlace)) (o:Nat) (cs:List Value),Ty.okAll P fs o us = true→cs.length = o+Ty.cellsAll fs→xs.length = us.length →
  (∀ (i:Nat) (f:Field),us[i]? = some f→DataW.trod enc P W 0 (fun _=>true) true n f.type ((cs.drop f.offset).take (P.cellsOf f.type)) = xs[i]?) →
  (∀ m∈DataW.weightsEach P (us.map (·.type)) (xs.map (·.1)),m≤reachBytes)→∃ ys,Ty.hasAll fs ys∧VRs (gW W) ys (cs.drop o)∧∀ v∈cs.drop o,v.oneCell' = true
 | [],n,[],xs,o,cs,hk,hlen,hxl,hf,hw=>by
  have:cs.drop o = []:=List.drop_eq_nil_of_le (by simp [Ty.cellsAll] at hlen; omega)
  exact ⟨[],rfl,by rw [this]; simp [VRs],by rw [this]; simp⟩
 | [],n,u :: us,xs,o,cs,hk,hlen,hxl,hf,hw=>by simp [Ty.okAll] at hk
 | f :: fs,n,[],xs,o,cs,hk,hlen,hxl,hf,hw=>by simp [Ty.okAll] at hk
 | f :: fs,n,u :: us,[],o,cs,hk,hlen,hxl,hf,hw=>by simp at hxl
 | f :: fs,n,u :: us,x :: xs,o,cs,hk,hlen,hxl,hf,hw=>by
  simp only [Ty.okAll,Bool.and_eq_true,beq_iff_eq] at hk
  obtain ⟨⟨⟨hk1,hk2⟩,hk3⟩,hk4⟩:=hk
  have h0:=hf 0 u rfl
  rw [hk2,hk3] at h0
  obtain ⟨ys,g1,g2,g3⟩:=Wca f n u.type _ x (by simpa using h0) hk1 (fun m hm=>hw m (by simp [DataW.weightsEach,hm]))
  obtain ⟨zs,j1,j2,j3⟩:=J0a fs n us xs (o+f.cells) cs hk4 (by simp only [Ty.cellsAll] at hlen; omega) (by simpa using hxl) (fun i w hi=>by simpa using hf (i+1) w (by simpa using hi)) (fun m hm=>hw m (by simp [DataW.weightsEach,hm]))
  refine ⟨ys++zs,⟨ys,zs,rfl,g1,j1⟩,vrs_split f.cells g2 (by rwa [List.drop_drop]),?_⟩
  intro v hv
  rw [← List.take_append_drop f.cells (cs.drop o),List.mem_append] at hv
  rcases hv with hv | hv
  ·exact g3 v hv
  ·rw [List.drop_drop] at hv; exact j3 v hv
end
def Ty.arg:Ty→List AV→AV
 | .struct _,xs | .arr ..,xs=>.agg xs
 | _,xs=>xs.headD .any
theorem arg_of_trod {ty:Ty} {t:TypeId} {v:Value} {d:DataW H} {ps:List MemPlace} {r:Reach} {b0:Nat} (h:DataW.Trod enc P W 0 (fun _=>true) true t v d ps) (hval:Value.okWide P W r b0 t v) (hk:ty.okFor P t = true)
  (hw:∀ n∈d.weights P t,n≤reachBytes):∃ xs,ty.has xs∧VR (gW W) (ty.arg xs) v:=by
 obtain ⟨fuel,h⟩:=h
 obtain ⟨xs,a,b,c⟩:=Wca ty fuel t _ _ h hk hw
 refine ⟨xs,a,?_⟩
 cases ty with
 | bool=>
  have ht:P.underlying t = some .bool:=by
   simp only [Ty.okFor] at hk; split at hk
   ·assumption
   ·cases hk
  obtain ⟨u,rfl⟩:=okWide_bool ht hval
  simp only [Ty.has] at a; obtain ⟨u',rfl⟩:=a
  simpa [Ty.arg,Value.cells,VRs] using b
 | int k=>
  have ht:P.underlying t = some (.int k):=by
   simp only [Ty.okFor] at hk; split at hk
   ·rename_i e; rw [e]; simp at hk; rw [hk]
   ·cases hk
  obtain ⟨u,rfl⟩:=okWide_int ht hval
  simp only [Ty.has] at a; obtain ⟨u',rfl,_⟩:=a
  simpa [Ty.arg,Value.cells,VRs] using b
 | str=>
  have ht:P.underlying t = some .string:=by
   simp only [Ty.okFor] at hk; split at hk
   ·assumption
   ·cases hk
  obtain ⟨u,rfl⟩:=okWide_string ht hval
  simp only [Ty.has] at a; obtain ⟨u',rfl,_⟩:=a
  simpa [Ty.arg,Value.cells,VRs] using b
 | slice sz bytes e=>
  simp only [Ty.okFor] at hk
  split at hk
  ·rename_i u ht
   obtain ⟨x,l,cp,rfl⟩:=okWide_slice ht hval
   simp only [Ty.has] at a; obtain ⟨u',rfl,_⟩:=a
   simpa [Ty.arg,Value.cells,VRs] using b
  ·cases hk
 | struct fs=>
  simp only [Ty.okFor] at hk
  split at hk
  ·rename_i us ht
   simp only [Value.okWide,ht] at hval
   obtain ⟨cs,rfl,hsz,_⟩:=hval
   simp only [Ty.arg,VR]
   simp only [Value.cells] at b c
   exact ⟨cs,rfl,Yeb b c (fun i hi=>by simp),by have:=VRs.length b; simp at this; exact this.symm⟩
  ·cases hk
 | arr n e=>
  simp only [Ty.okFor] at hk
  split at hk
  ·rename_i n' u ht
   simp only [Value.okWide,ht] at hval
   obtain ⟨cs,rfl,hsz,_⟩:=hval
   simp only [Ty.arg,VR]
   simp only [Value.cells] at b c
   exact ⟨cs,rfl,Yeb b c (fun i hi=>by simp),by have:=VRs.length b; simp at this; exact this.symm⟩
  ·cases hk
def Ty.haveArgs:List Ty→List AV→Prop
 | [],xs=>xs = []
 | ty :: tys,xs=>∃ c ys,xs = ty.arg c :: ys∧ty.has c∧Ty.haveArgs tys ys
def Ty.okArgs (P:Program):List Ty→List TypeId→Bool
 | [],[]=>true
 | ty :: tys,t :: ts=>ty.okFor P t && Ty.okArgs P tys ts
 | _,_=>false
theorem args_of_trod {r:Reach} {b0:Nat}:∀ (tys:List Ty) (ts:List TypeId) (vs:List Value) (ds:List (DataW H)) (ps:List MemPlace),DataW.TrodAll enc P W 0 (fun _=>true) true ts vs ds ps →
  (∀ (j:Nat) t v,ts[j]? = some t→vs[j]? = some v→Value.okWide P W r b0 t v)→Ty.okArgs P tys ts = true→(∀ n∈DataW.weightsEach P ts ds,n≤reachBytes)→∃ xs,Ty.haveArgs tys xs∧VRs (gW W) xs vs
 | [],[],vs,ds,ps,h,hval,hk,hw=>by
  obtain ⟨rfl,rfl,rfl⟩:=trodAll_nil h
  exact ⟨[],rfl,by simp [VRs]⟩
 | [],_ :: _,vs,ds,ps,h,hval,hk,hw=>by simp [Ty.okArgs] at hk
 | _ :: _,[],vs,ds,ps,h,hval,hk,hw=>by simp [Ty.okArgs] at hk
 | ty :: tys,t :: ts,vs,ds,ps,h,hval,hk,hw=>by
  simp only [Ty.okArgs,Bool.and_eq_true] at hk
  obtain ⟨v,vs',d,ds',p,q,rfl,rfl,rfl,hd,hrest⟩:=trodAll_cons h
  obtain ⟨c,h1,h2⟩:=arg_of_trod hd (hval 0 t v rfl rfl) hk.1 (fun n hn=>hw n (by simp [DataW.weightsEach,hn]))
  obtain ⟨xs,h3,h4⟩:=args_of_trod tys ts vs' ds' q hrest (fun j t v ht hv=>hval (j+1) t v (by simpa using ht) (by simpa using hv)) hk.2 (fun n hn=>hw n (by simp [DataW.weightsEach,hn]))
  exact ⟨ty.arg c :: xs,⟨c,xs,rfl,h1,h3⟩,h2,h4⟩
theorem Yfb (hl:laidOutB P = true) {W':World} (hb:Below W.heap.size W W'):∀ (ts:List TypeId) (vs:List Value) (ds:List (DataW H)) (ps:List MemPlace),(ts.all fun t=>P.readableRec t && decide (t < P.types.size)) = true →
  DataW.TrodAll enc P W 0 (fun _=>true) true ts vs ds ps→DataW.TrodAll enc P W' 0 (fun b=>decide (b < W.heap.size)) true ts vs ds ps
 | [],vs,ds,ps,hr,h=>by obtain ⟨rfl,rfl,rfl⟩:=trodAll_nil h; rfl
 | t :: ts,vs,ds,ps,hr,h=>by
  obtain ⟨v,vs',d,ds',p,q,rfl,rfl,rfl,hd,hrest⟩:=trodAll_cons h
  simp only [List.all_cons,Bool.and_eq_true,decide_eq_true_eq] at hr
  refine trodAll_cons_mk (Below.trod hl hr.1.1 hr.1.2 hd hb fun x hx=>?_) (Yfb hl hb ts vs' ds' q (by simpa using hr.2) hrest)
  obtain ⟨fuel,hf⟩:=hd
  exact DataW.trod_lt fuel t _ _ hf x hx
end
theorem law_calls {P:Program} {n:Nat} {args:Array Value} {W:World} {xs:List AV} {Q:AE→Hp→Prop} {u:Value} (h:Zo P n xs Hp.nil Q) (hQ:∀ e h',Q e h'→e = .ret (.val u)) (hv:VRs (gW W) xs args.toList) (hgl:Glob fun b=>W.heap[b]?) :
  Calls P n args W fun e W'=>e = .returned u∧Below W.heap.size W W':=
 (h.2 (gW W) W args hv (gW_HR W hgl)).mono fun e W' ⟨g',h',E,hg,hh,hq,hm⟩=>by
  rw [hQ _ _ hq] at hm
  cases e <;> simp [VR] at hm
  subst hm
  exact ⟨rfl,gW_below hg hh⟩
end Go.Proofs.YtpkhmfedaaoalaaGreatDoor.AM
namespace Go.Proofs.YtpkhmfedaaoalaaGreatDoor
open Go Go.Proofs.YtpkhmfedaaoalaaGreatDoor.AM Go.ChangeShapes Go.WideShapes Go.ChangeAt Go.RowKit
set_option maxRecDepth 100000
def tyTok:Ty:=.struct [.int .i64,.int .u8,.int .i64]
def tyPat:Ty:=.struct [.str,.str]
def tyMetric:Ty:=.struct [.arr 128 (.int .i64),.int .i64,.int .i64,.slice 2 32 tyPat]
theorem dec_list {α:Type} {ty:Ty} {e:α→List AV} {p:α→Prop} (hd:∀ r,ty.has r→∃ x,r = e x∧p x):∀ (rows:List (List AV)),(∀ r∈rows,ty.has r)→∃ l:List α,rows = l.map e∧∀ x∈l,p x
 | [],_=>⟨[],rfl,by simp⟩
 | r :: rows,h=>by
  obtain ⟨x,rfl,hx⟩:=hd r (h r (by simp))
  obtain ⟨l,rfl,hl⟩:=dec_list hd rows fun q hq=>h q (by simp [hq])
  exact ⟨x :: l,rfl,by simpa using ⟨hx,hl⟩⟩
theorem has_tok (r:List AV) (h:tyTok.has r):∃ x:Ze,r = Ze.enc x∧(0≤x.Ch∧x.Ch≤255):=by
 simp only [tyTok,Ty.has,Ty.hasAll] at h
 obtain ⟨a,b,rfl,⟨n1,rfl,_⟩,a2,b2,rfl,⟨n2,rfl,w2⟩,a3,b3,rfl,⟨n3,rfl,_⟩,rfl⟩:=h
 refine ⟨⟨n1,n2,n3⟩,rfl,?_⟩
 simp only [Lit.wf] at w2
 simp only [Bool.and_eq_true,decide_eq_true_eq] at w2
 have e1:IntKind.u8.min = 0:=by decide
 have e2:IntKind.u8.max = 255:=by decide
 show 0≤n2∧n2≤255
 rw [e1,e2] at w2; omega
theorem has_toks (r:List AV) (h:(Ty.slice 3 24 tyTok).has r):∃ x:List Ze,r = [.isl 3 (x.map Ze.enc)]∧∀ t∈x,0≤t.Ch∧t.Ch≤255:=by
 simp only [Ty.has] at h
 obtain ⟨rows,rfl,hb,_,hr⟩:=h
 obtain ⟨l,rfl,hl⟩:=dec_list has_tok rows hr
 exact ⟨l,rfl,hl⟩
theorem has_pat (r:List AV) (h:tyPat.has r):∃ x:Zj,r = Zj.enc x∧True:=by
 simp only [tyPat,Ty.has,Ty.hasAll] at h
 obtain ⟨a,b,rfl,⟨s1,rfl,_⟩,a2,b2,rfl,⟨s2,rfl,_⟩,rfl⟩:=h
 exact ⟨⟨s1,s2⟩,rfl,trivial⟩
theorem has_metric (r:List AV) (h:tyMetric.has r):∃ x:Zg,r = Zg.enc x∧x.Widths.length = 128:=by
 simp only [tyMetric,Ty.has,Ty.hasAll] at h
 obtain ⟨a,b,rfl,⟨ws,hn,rfl,hw⟩,a2,b2,rfl,⟨n2,rfl,_⟩,a3,b3,rfl,⟨n3,rfl,_⟩,a4,b4,rfl,⟨rows,rfl,_,_,hr⟩,rfl⟩:=h
 obtain ⟨l,rfl,_⟩:=dec_list (ty:=.int .i64) (e:=fun n:Int=>[aint n]) (p:=fun _=>True) (fun r h=>by
  simp only [Ty.has] at h
  obtain ⟨n,h,_⟩:=h
  exact ⟨n,h,trivial⟩) ws (fun r hr=>by simp only [Ty.has]; exact hw r hr)
 obtain ⟨ps,rfl,_⟩:=dec_list has_pat rows hr
 rw [List.length_map] at hn
 refine ⟨⟨l,n2,n3,ps⟩,?_,hn⟩
 have:∀ l:List Int,(l.map fun n:Int=>[aint n]).flatten = l.map fun v=>aint v:=by
  intro l
  induction l with
  | nil=>rfl
  | cons x l ih=>rw [List.map_cons,List.flatten_cons,ih]; rfl
 rw [this]; rfl
theorem own:ownKnob Tryz.prog.godebug = none:=by kernel_rfl
theorem laidOut:laidOutB Tryz.prog = true:=by kernel_rfl
theorem glob_any (W:World):Glob fun b=>W.heap[b]?:=fun _ _=>trivial
end Go.Proofs.YtpkhmfedaaoalaaGreatDoor
