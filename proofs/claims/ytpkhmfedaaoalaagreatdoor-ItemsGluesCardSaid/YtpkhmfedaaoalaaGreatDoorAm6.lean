/- ItemsGlues: a part of its proof (packed by a program). -/
import Derived.Lib.ConvBytes
import Derived.Maps.RangeRun
import Derived.Test.YtpkhmfedaaoalaaGreatDoorAm5
import Derived.Great.BuildSlice
import Derived.WideKeyRuns
set_option linter.all false
namespace Go.Proofs.YtpkhmfedaaoalaaGreatDoor.AM
open Go
section
variable {P:Program} {T:Tab}
theorem nilCmp_run (hT:Kb P T) {op:BinOp} {t:Nat} {x:AV} {ox y:Operand} {g:Gh} {h:Hp} {k:AV→Hp→Prop} {u:Value} (hx:VR g x u) {a:Act} (hk:nilCmp T op t x y h k) {w:World} :
  ∃ b,(do eqGuard op t ox y u (a.eval y); binOp op t u (a.eval y):Sem Value).run P w = .ok (.bool b) w∧k (Zk b) h:=by
 unfold nilCmp at hk
 split at hk <;> try exact hk.elim
 rename_i ti hti
 obtain ⟨i,d,z,ht⟩:=hT.get hti
 split at hk <;> try exact hk.elim
 all_goals
  rename_i e sz rows hke
  have hu:=ht.und; rw [ht.sl hke] at hu
  simp only [VR] at hx
  obtain ⟨A,cap,rfl,hcap,hx⟩:=hx
  have hr:=Zna (P:=P) (w:=w) (t:=t) (u:=.slice A rows.length cap) (v:=.slice none 0 0) ox (.const (.slice none 0 0)) (by simp) (by simp) (by intro op; cases op <;> simp [eqGuard]) (by simp [binOp]) (Wea _ hu A _ _)
  have hA:A.isNone = true→rows = []:=by
   intro e
   rcases hx with hx | ⟨aa,_,_,_,rfl,_⟩
   ·exact hx
   ·simp at e
 ·refine ⟨A.isNone,hr.1,?_⟩
  cases e:A.isNone with
  | true=>exact hk.1 (hA e)
  | false=>exact hk.2
 ·refine ⟨!A.isNone,hr.2,?_⟩
  cases e:A.isNone with
  | true=>exact hk.1 (hA e)
  | false=>exact hk.2
theorem aText_run (hT:Kb P T) {g:Gh} {h:Hp} {w:World} (hh:HR g h w) {s d:Nat} {x z:AV} {u:Value} (hx:VR g x u) (hz:Ybb T s d x h = some z) :
  ∃ b,z = astr b∧(convert s d u).run P w = .ok (.string b) w:=by
 unfold Ybb at hz
 split at hz <;> try cases hz
 rename_i si di hsi hdi
 split at hz <;> try cases hz
 rename_i e hke hkd
 split at hz <;> try cases hz
 rename_i ei hei
 split at hz <;> try cases hz
 rename_i rows hki hsrc
 split at hz <;> try cases hz
 rename_i l hl
 obtain ⟨i1,d1,z1,ht1⟩:=hT.get hsi
 obtain ⟨i2,d2,z2,ht2⟩:=hT.get hdi
 obtain ⟨i3,d3,z3,ht3⟩:=hT.get hei
 have hu1:=ht1.und; rw [ht1.sl hke] at hu1
 have hu2:=ht2.und; rw [ht2.str hkd] at hu2
 have hu3:=ht3.und; rw [ht3.int hki] at hu3
 obtain ⟨news,src,hnews⟩:=aSrc_run hT hh ht1 hx hsrc
 refine ⟨_,rfl,?_⟩
 have hn:news.length = rows.length:=by have:=src.newsLen; simpa using this
 have key:∀ (rows:List (List AV)) (l:List UInt8) (c:Array Value) (o:Nat),Z0 g c 1 o rows→bytesOf rows = some l→∃ ns:List Int,ns.length = rows.length∧(ns.map fun n=>UInt8.ofNat n.toNat) = l∧∀ j n,ns[j]? = some n→c[o+j]? = some (.int .u8 n):=by
  intro rows
  induction rows with
  | nil=>intro l c o _ h; simp [bytesOf] at h; subst h; exact ⟨[],rfl,rfl,by simp⟩
  | cons r rs ih=>
   intro l c o hr h
   simp only [Z0] at hr
   unfold bytesOf at h
   split at h <;> rename_i heq
   ·cases heq
   ·rename_i n rs'
    cases heq
    split at h <;> cases h
    rename_i l' hl'
    obtain ⟨ns,a1,a2,a3⟩:=ih l' c (o+1) hr.2.2 hl'
    have:=hr.2.1
    simp only [Zp] at this
    obtain ⟨⟨v,v1,v2,v3⟩,_⟩:=this
    simp only [VR] at v3; subst v3
    refine ⟨n :: ns,by simp [a1],by simp [a2],fun j m hj=>?_⟩
    cases j with
    | zero=>simp at hj; subst hj; simpa using v1
    | succ j=>
     have:=a3 j m (by simpa using hj)
     rwa [Nat.add_assoc,Nat.add_comm 1 j] at this
   ·cases h
 obtain ⟨ns,n1,n2,n3⟩:=key rows l news.toArray 0 (hnews _ 0 fun j v hj=>by simpa using hj) hl
 have hnv:news = ns.map (Value.int .u8):=by
  apply List.ext_getElem?
  intro j
  rw [List.getElem?_map]
  cases e:ns[j]? with
  | none=>
   have:=List.getElem?_eq_none_iff.1 e
   simp; omega
  | some n=>have:=n3 j n e; simpa using this
 have hslice:∃ A cap,u = .slice A rows.length cap∧(A = none→rows = []):=by
  unfold aSrc at hsrc
  rw [hke] at hsrc
  split at hsrc <;> try cases hsrc
  ·split at hsrc <;> cases hsrc
   simp only [VR] at hx
   obtain ⟨A,cap,rfl,_,hx⟩:=hx
   refine ⟨A,cap,rfl,?_⟩
   rintro rfl
   rcases hx with hx | ⟨_,_,_,_,hx,_⟩
   ·exact hx
   ·cases hx
  ·split at hsrc <;> try cases hsrc
   split at hsrc <;> cases hsrc
   rename_i hc
   simp only [VR] at hx
   obtain ⟨a,cap,rfl,_⟩:=hx
   refine ⟨some a,cap,?_,fun e=>by cases e⟩
   congr 1
   simp; omega
  ·simp only [VR] at hx
   exact ⟨none,0,by rw [hx]; rfl,fun _=>rfl⟩
  ·rename_i heq _
   exact absurd ‹TK.sl e = TK.str› (by simp)
 obtain ⟨A,cap,rfl,hnone⟩:=hslice
 cases A with
 | none=>
  have hr1:=hnone rfl
  subst hr1
  simp [bytesOf] at hl
  subst hl
  rw [run_convert_bytes_nil w s e hu1 hu3 _ _ d hu2]
  rfl
 | some a=>
  rw [run_convert_bytes_string w s d e (some a) rows.length cap hu1 hu3 hu2]
  have hload:(loadCells a rows.length).run P w = .ok (ns.map (Value.int .u8)).toArray w:=by
   have:=src.cells
   rw [hnv] at this
   simpa [Builtin.firstCells] using this
  rw [run_bytesToString w a rows.length cap ns hload,foldl_push_bytes,n2]
  simp [ByteArray.empty,ByteArray.emptyWithCapacity]
  rfl
theorem aClear_run (hT:Kb P T) {g:Gh} {h:Hp} {w:World} (hh:HR g h w) {t:Nat} {x:AV} {u:Value} (hx:VR g x u) {k:AV→Hp→Prop} (hk:aClear T t x h k) {ty:TypeId} :
  ∃ w' h',(Builtin.clear_ #[t] ty #[u]).run P w = .ok (.tuple #[]) w'∧HR g h' w'∧k (.tup []) h':=by
 unfold aClear at hk
 split at hk <;> try exact hk.elim
 rename_i ti hti
 obtain ⟨i,d,z,ht⟩:=hT.get hti
 split at hk <;> try exact hk.elim
 ·rename_i e b sz off len hke
  split at hk <;> try exact hk.elim
  rename_i ei o hei hb
  obtain ⟨h1,h2,h3,h4⟩:=hk
  obtain ⟨i2,d2,z2,ht2⟩:=hT.get hei
  have hu:=ht.und; rw [ht.sl hke] at hu
  simp only [VR] at hx
  obtain ⟨a,cap,rfl,hcap,hs,hx⟩:=hx
  by_cases h0:len = 0
  ·subst h0
   refine ⟨w,h,by cases cap <;> simp [Builtin.clear_,run_underlying hu],hh,?_⟩
   have:h.upd b ⟨sz,o.rows.take off++(List.replicate 0 (ei.zero.map .val)++o.rows.drop (off+0)),o.ty⟩ = h:=by
    refine Hp.ext (fun j=>?_) (fun _=>rfl)
    simp only [Hp.upd]
    split
    ·rename_i e1; subst e1; rw [hb]
     simp [← h1]
    ·rfl
   rw [this] at h4
   exact h4
  ·rcases hx with hx | ⟨rfl,e',n,hn,hle⟩
   ·omega
   ·obtain ⟨q1,cur,e2,⟨fr,q2,qt⟩,q3,q4⟩:=hh.ob b o hb
    rw [q3] at hn; cases hn
    rw [h1] at q4
    have hzl:(Builtin.zeroCells z2.cells len).toList.length = len * sz:=by rw [Array.length_toList,size_zeroCells,ht2.zsize,h2]
    have hfit:off * sz+(Builtin.zeroCells z2.cells len).toList.length≤cur.size:=by
     rw [hzl]
     refine Nat.le_trans ?_ hle
     rw [← Nat.add_mul]; exact Nat.mul_le_mul_right _ (by omega)
    have hzrows:Z0 g (Builtin.zeroCells z2.cells len) ei.size 0 (List.replicate len (ei.zero.map .val)):=by
     have:=repl_rows (g:=g) ht2 len len (Nat.le_refl _)
     unfold Builtin.zeroCells
     rw [ht2.zsize]
     rwa [ht2.zsize] at this
    obtain ⟨zs,z1,z2',z3,z4⟩:=hzrows.list
    have hone:∀ v∈(Builtin.zeroCells z2.cells len).toList,v.oneCell' = true:=by
     intro v hv
     obtain ⟨j,hj⟩:=List.mem_iff_getElem?.1 hv
     have hjl:j < zs.length:=by
      have:=(List.getElem?_eq_some_iff.1 hj).1
      rw [hzl] at this
      rw [z1,List.length_replicate,h2]; exact this
     have:=z3 j _ (List.getElem?_eq_getElem hjl)
     rw [Nat.zero_add,← Array.getElem?_toList,hj] at this
     cases this
     exact z2' _ (List.getElem_mem hjl)
    have hst:=Kd P b (off * sz) _ fr _ 0 cur w q2 qt (by simpa using hfit) hone
    simp only [Nat.add_zero] at hst
    refine ⟨_,_,?_,HR.set hh hb q2 (Zqb cur _ _ hfit) ?_ o.ty id,h4⟩
    ·obtain ⟨m,rfl⟩:∃ m,len = m+1:=⟨len - 1,by omega⟩
     simp [Builtin.clear_,run_underlying hu,zeroValue,typeInfo,ht2.info,ht2.zero,hst]
    ·refine Z0.append ?_ (Z0.append ?_ ?_)
     ·refine (q4.take off).congr fun k hk=>?_
      rw [J3 cur _ _ hfit,if_neg]
      have:(o.rows.take off).length≤off:=by simp; omega
      have:=Nat.mul_le_mul_right sz this
      omega
     ·have hl:(o.rows.take off).length = off:=by simp; omega
      rw [hl,Nat.zero_add]
      rw [h2] at z4
      refine z4 _ _ fun j u hju=>?_
      have hj:=(List.getElem?_eq_some_iff.1 hju).1
      have hz:=z3 j u hju
      rw [Nat.zero_add] at hz
      rw [z1,List.length_replicate,h2] at hj
      rw [J3 cur _ _ hfit,if_pos (by omega),Nat.add_sub_cancel_left]
      simpa using hz
     ·have hl:(o.rows.take off).length = off:=by simp; omega
      rw [hl,List.length_replicate,Nat.zero_add,← Nat.add_mul]
      have:=q4.drop (off+len)
      rw [Nat.zero_add] at this
      refine this.congr fun k hk=>?_
      rw [J3 cur _ _ hfit,if_neg]
      rw [hzl,← Nat.add_mul]; omega
 ·rename_i e hke
  have hu:=ht.und; rw [ht.sl hke] at hu
  simp only [VR] at hx
  subst hx
  exact ⟨w,h,by simp [Builtin.clear_,run_underlying hu],hh,hk⟩
 ·rename_i e sz hke
  have hu:=ht.und; rw [ht.sl hke] at hu
  simp only [VR] at hx
  obtain ⟨A,cap,rfl,_,_⟩:=hx
  exact ⟨w,h,by cases A <;> cases cap <;> simp [Builtin.clear_,run_underlying hu],hh,hk⟩
theorem Kya.run {f:Nat} {args:List AV} {x:AV} (hp:Kya P f args x) {g:Gh} {h:Hp} {w:World} (hh:HR g h w) {vs:Array Value} (hv:VRs g args vs.toList) {R:Ending→World→Prop}
  (hR:∀ g' v w',g.le g'→VR g' x v→HR g' h w'→R (.returned v) w'):Calls P f vs w R:=by
 refine ((hp h).2 g w vs hv hh).mono ?_
 rintro e w' ⟨g',h',E,a,b,⟨rfl,rfl⟩,d⟩
 cases e with
 | returned v=>exact hR g' v w' a d b
 | panicked c=>exact d.elim
 | outgrown=>exact d.elim
theorem aBytes_run (hT:Kb P T) {g:Gh} {h:Hp} {w:World} (hh:HR g h w) {s d:Nat} {x:AV} {u:Value} (hx:VR g x u) {k:AV→Hp→Prop} (hk:Zhb T s d x h k) :
  ∃ r w' g' y h',(convert s d u).run P w = .ok r w'∧g.le g'∧VR g' y r∧HR g' h' w'∧k y h':=by
 unfold Zhb at hk
 split at hk <;> try exact hk.elim
 rename_i si di t hs hd
 split at hk <;> try exact hk.elim
 rename_i e hks hkd
 split at hk <;> try exact hk.elim
 rename_i ei he
 obtain ⟨k1,k2,k3⟩:=hk
 obtain ⟨i1,d1,z1,t1⟩:=hT.get hs
 obtain ⟨i2,d2,z2,t2⟩:=hT.get hd
 obtain ⟨i3,d3,z3,t3⟩:=hT.get he
 have u1:=t1.und
 have u2:=t2.und; rw [t2.sl hkd] at u2
 have u3:=t3.und; rw [t3.int k1] at u3
 simp only [VR] at hx
 subst hx
 have hge:=grownCap_ge w t.size 0 e
 have hcs:(Lib.bytesCells w e t).size = grownCap w t.size 0 e:=by
  have:t.data.size = t.size:=rfl
  simp [Lib.bytesCells,this]; omega
 have hrows:Z0 g (Lib.bytesCells w e t) 1 0 (t.data.toList.map fun c=>[Yab c.toNat]):=
  Z0.of_get fun i r hr=>by
   rw [List.getElem?_map] at hr
   cases e1:t.data.toList[i]? with
   | none=>rw [e1] at hr; cases hr
   | some c=>
    rw [e1] at hr; cases hr
    refine ⟨rfl,?_⟩
    simp only [Zp]
    have hlt:=(List.getElem?_eq_some_iff.1 e1).1
    refine ⟨⟨.int .u8 c.toNat,?_,rfl,by simp [VR,Yab]⟩,trivial⟩
    rw [Lib.bytesCells,Array.getElem?_append,if_pos (by simpa using hlt)]
    have:t.data[i]? = some c:=by rw [← Array.getElem?_toList]; exact e1
    simp [this]
 have hd0:HR g h w.drew:=hh.drew
 obtain ⟨a1,a2⟩:=hd0.alloc (e:=e) hrows (some (e,0)) (TyOK.row e _)
 have esz:w.drew.heap.size = w.heap.size:=rfl
 rw [esz] at a1 a2
 refine ⟨_,_,_,.osl w.heap.size 1 0 t.size,_,Lib.run_convert_string_bytes w s d e t u1 u2 u3,a1,?_,?_,k3 _ hh.fresh.1⟩
 ·simp only [VR]
  refine ⟨_,_,rfl,hge,rfl,.inr ⟨by simp,e,(Lib.bytesCells w e t).size,?_,by rw [hcs]; omega⟩⟩
  show (g.new w.heap.size (e,_)).shp w.heap.size = _
  simp [Gh.new]
 ·have old:∀ j,j < w.heap.size→(Lib.bytesWorld w e t).heap[j]? = (w.drew.alloc (.cells (Lib.bytesCells w e t) e)).heap[j]?:=fun j hj=>by
   rw [Lib.bytesWorld_at_old w e t j hj]
   show _ = (w.heap.push _)[j]?
   rw [Array.getElem?_push,if_neg (by omega)]
  have new:=Lib.bytesWorld_at_new w e t
  have new0:(w.drew.alloc (.cells (Lib.bytesCells w e t) e)).heap[w.heap.size]? = some (.cells (Lib.bytesCells w e t) e):=by
   show (w.heap.push _)[w.heap.size]? = _
   simp
  have lt_of:∀ b (o:Obj),(w.drew.alloc (.cells (Lib.bytesCells w e t) e)).heap[b]? = some o→b < w.heap.size+1:=fun b o ho=>by
   have:=(Array.getElem?_eq_some_iff.1 ho).1
   rw [World.size_alloc] at this; exact this
  have other:∀ b (o:Obj),b≠w.heap.size→(w.drew.alloc (.cells (Lib.bytesCells w e t) e)).heap[b]? = some o→(Lib.bytesWorld w e t).heap[b]? = some o:=fun b o hb ho=>by
   rw [old b (by have:=lt_of b o ho; omega)]; exact ho
  refine ⟨a2.os,a2.tape,a2.output,?_,fun b o hb=>?_,fun b y hb=>?_,fun b o hb=>?_,a2.gl,fun b o hb=>?_⟩
  ·rw [Lib.bytesWorld_size]; have:=a2.size; rw [World.size_alloc] at this; exact this
  ·refine other b o ?_ (a2.fz b o hb)
   rintro rfl
   have:=hh.fresh.2.1
   have e2:(g.new w.heap.size (e,(Lib.bytesCells w e t).size)).fz w.heap.size = g.fz w.heap.size:=rfl
   rw [e2,this] at hb; cases hb
  ·have h1:=a2.shp b y hb
   by_cases eb:b = w.heap.size
   ·subst eb
    simp only [World.shape?,new0] at h1
    simp only [World.shape?,new]; exact h1
   ·cases e3:(w.drew.alloc (.cells (Lib.bytesCells w e t) e)).heap[b]? with
    | none=>simp [World.shape?,e3] at h1
    | some o=>
     simp only [World.shape?,other b o eb e3]
     simp only [World.shape?,e3] at h1; exact h1
  ·obtain ⟨p1,c,e',⟨fr,p2,pt⟩,p3,p4⟩:=a2.ob b o hb
   refine ⟨p1,c,e',?_,p3,p4⟩
   by_cases eb:b = w.heap.size
   ·subst eb
    rw [new0] at p2; cases p2
    exact ⟨_,new,.inr (Nat.le_refl _)⟩
   ·exact ⟨fr,other b _ eb p2,pt⟩
  ·obtain ⟨⟨p1,p2⟩,p3⟩:=a2.raw b o hb
   refine ⟨⟨other b o ?_ p1,p2⟩,p3⟩
   rintro rfl
   rw [new0] at p1; cases p1; simp [Kf] at p2
theorem fixV_ok {g:Gh} {x:AV} {u v:Value} (hx:VR g x u) (hv:fixV x = some v):u = v:=by
 unfold fixV at hv
 split at hv
 ·cases hv; simpa [VR] using hx
 ·cases hv; simpa [VR] using hx
 ·rename_i cs
  split at hv <;> cases hv
  rename_i vs hvs
  simp only [VR] at hx
  obtain ⟨us,rfl,h1,h2⟩:=hx
  congr 1
  apply Array.ext'
  have key:∀ (cs:List AV) (vs:List Value) (o:Nat),cs.mapM vOf = some vs→Zp g us o cs→∀ j,j < cs.length→us[o+j]? = vs[j]?∧vs.length = cs.length:=by
   intro cs
   induction cs with
   | nil=>intro vs o _ _ j hj; simp at hj
   | cons c cs ih=>
    intro vs o hm hc j hj
    rw [List.mapM_cons] at hm
    cases hc1:vOf c with
    | none=>rw [hc1] at hm; cases hm
    | some w=>
     cases hc2:cs.mapM vOf with
     | none=>rw [hc1,hc2] at hm; cases hm
     | some ws=>
      rw [hc1,hc2] at hm
      cases hm
      simp only [Zp] at hc
      obtain ⟨⟨y,y1,y2,y3⟩,hc'⟩:=hc
      have ey:y = w:=by
       cases c <;> simp only [vOf] at hc1 <;> cases hc1
       simpa [VR] using y3
      subst ey
      have hlen:ws.length = cs.length:=by
       clear ih hc' hj
       induction cs generalizing ws with
       | nil=>cases hc2; rfl
       | cons a cs ih2=>
        rw [List.mapM_cons] at hc2
        cases q1:vOf a with
        | none=>rw [q1] at hc2; cases hc2
        | some _=>cases q2:cs.mapM vOf with
         | none=>rw [q1,q2] at hc2; cases hc2
         | some _=>rw [q1,q2] at hc2; cases hc2; simp [ih2 _ q2]
      refine ⟨?_,by simp [hlen]⟩
      cases j with
      | zero=>simpa using y1
      | succ j=>
       have:=(ih ws (o+1) hc2 hc' j (by simpa using hj)).1
       rw [Nat.add_assoc,Nat.add_comm 1 j] at this
       simpa using this
  apply List.ext_getElem?
  intro j
  by_cases hj:j < cs.length
  ·have:=(key cs vs 0 hvs h1 j hj).1
   rw [Nat.zero_add] at this
   simpa using this
  ·rw [List.getElem?_eq_none (by rw [Array.length_toList]; omega),List.getElem?_eq_none]
   have:vs.length = cs.length:=by
    by_cases h0:0 < cs.length
    ·exact (key cs vs 0 hvs h1 0 h0).2
    ·have:cs = []:=List.eq_nil_of_length_eq_zero (by omega)
     subst this; cases hvs; rfl
   simp; omega
 ·cases hv
theorem sameNow_of {d:TypeDesc} {k k':Value} {b:Bool} (h:sameK (Kw d) k k' = some b):Instr.sameNow d k k' = some b:=by
 cases d <;> cases k <;> cases k' <;> simp_all [Kw,sameK,Instr.sameNow]
theorem isKey_of {d:TypeDesc} {k:Value} (h:keyK (Kw d) k = true):MapKept.IsKey d k:=by
 cases d <;> cases k <;> simp_all [Kw,keyK,MapKept.IsKey]
theorem eqS_run (g:Gh) {t:Nat} {ti:TI} {i:TypeInfo} {d:TypeDesc} {z0:Value} {w:World} (ht:TIs P t ti i d z0) {fs0:List (Nat×Nat)} (hk:ti.kind = .struct fs0) {es:List (Nat×TK)} (hes:ti.eqs = some es) {us vs:Array Value} (hu:us.all Value.oneCell' = true) (hv:vs.all Value.oneCell' = true) {r:Bool}
  (hr:aeqs es (us.toList.map .val) (vs.toList.map .val) = some r):(Op.equal t (.agg us) (.agg vs)).run P w = .ok r w:=by
 obtain ⟨fs,rfl,_⟩:=ht.struct hk
 have he:=ht.eqs
 rw [hes] at he
 simp only [eqsOf] at he
 split at he <;> try cases he
 rename_i es' hfs
 split at he <;> cases he
 rename_i hn
 simp only [Bool.or_eq_true,not_or,Bool.not_eq_true] at hn
 have hf:P.fieldsOf t = fs:=by simp [Program.fieldsOf,ht.und]
 show (Op.equalIn 10000 t (.agg us) (.agg vs)).run P w = .ok r w
 rw [run_equalIn_struct w 9999 t us vs (by rw [hf]; exact ht.und) hn.1,hf]
 exact aeqs_run (g:=g) (VR.vals g us hu) (VR.vals g vs hv) 9997 _ _ r hfs hr
theorem checkS_run {em:Bool} {n:Nat} {w:World} {us:Array Value}:∀ (fs:List Field) (es:List (List (Nat×TK))),fs.mapM (Y0a P) = some es→es.flatten.all (fun p=>decide (p.1 < us.size)) = true →
  (forIn fs PUnit.unit fun f (r:PUnit)=>(do
   if f.name ≠ "_" then Instr.checkKey em (n+2) f.type (← part f.type us f.offset)
   pure (ForInStep.yield PUnit.unit):Sem (ForInStep PUnit))).run P w = .ok PUnit.unit w
 | [],es,_,_=>by simp
 | f :: fs,es,h,ha=>by
  simp only [List.mapM_cons,Option.bind_eq_bind,Option.pure_def] at h
  cases hf:Y0a P f with
  | none=>simp [hf] at h
  | some p=>
   cases hr:fs.mapM (Y0a P) with
   | none=>simp [hf,hr] at h
   | some rest=>
    simp [hf,hr] at h
    subst h
    rw [List.flatten_cons,List.all_append,Bool.and_eq_true] at ha
    have ih:=checkS_run (em:=em) (n:=n) (w:=w) (us:=us) fs rest hr ha.2
    have fin:∀ d,P.underlying f.type = some d→(d = .bool∨d = .string∨∃ k,d = .int k)→f.offset < us.size→(do
      if f.name ≠ "_" then Instr.checkKey em (n+2) f.type (← part f.type us f.offset)
      pure (ForInStep.yield PUnit.unit):Sem (ForInStep PUnit)).run P w = .ok (ForInStep.yield PUnit.unit) w:=by
     intro d hd hk ho
     have hp:=Vp (P:=P) (w:=w) hd (by rcases hk with rfl | rfl | ⟨k,rfl⟩ <;> rfl) (Array.getElem?_eq_getElem ho)
     have hc:(Instr.checkKey em (n+2) f.type us[f.offset]).run P w = .ok () w:=by
      rcases hk with rfl | rfl | ⟨k,rfl⟩ <;> simp [Instr.checkKey,run_underlying hd]
     by_cases hn:f.name = "_"
     ·simp [hn]
     ·simp [hn,hp,hc]
    unfold Y0a at hf
    split at hf
    ·cases hf
    rename_i hname
    split at hf <;> try cases hf
    ·rename_i hund
     rw [List.forIn_cons,Sem.run_bind,fin _ hund (by simp) (by simpa using ha.1)]
     simpa using ih
    ·rename_i hund
     rw [List.forIn_cons,Sem.run_bind,fin _ hund (by simp) (by simpa using ha.1)]
     simpa using ih
    ·rename_i hund
     rw [List.forIn_cons,Sem.run_bind,fin _ hund (by simp) (by simpa using ha.1)]
     simpa using ih
    ·rename_i m el hund
     split at hf <;> try cases hf
     rename_i k ie fi hk hie hfi
     split at hf <;> cases hf
     rename_i hc
     obtain ⟨hs1,hc1,hc2⟩:=hc
     have ha1:∀ i,i < m→f.offset+i < us.size:=fun i hi=>by
      have:=List.all_eq_true.1 ha.1 _ (List.mem_map.2 ⟨i,List.mem_range.2 hi,rfl⟩)
      simpa using this
     have hck:(Instr.checkKey em (n+2) f.type (.agg (us.extract f.offset (f.offset+fi.size)))).run P w = .ok () w:=by
      rw [Instr.checkKey]
      simp only [Sem.run_bind,run_underlying hund,Result.andThen_ok]
      simp only [Std.Legacy.Range.forIn_eq_forIn_range',Std.Legacy.Range.size,Nat.sub_zero,Nat.add_one_sub_one,Nat.div_one]
      have loop:∀ (l:List Nat),(∀ i∈l,i < m)→(forIn l PUnit.unit fun i (r:PUnit)=>(do
        Instr.checkKey em (n+1) el (← part el (us.extract f.offset (f.offset+fi.size)) (i * (← sizeOf el)))
        pure (ForInStep.yield PUnit.unit):Sem (ForInStep PUnit))).run P w = .ok PUnit.unit w:=by
       intro l
       induction l with
       | nil=>intro _; simp
       | cons i l ih2=>
        intro hl
        have him:=hl i (by simp)
        have hlt:=ha1 i him
        have hg:(us.extract f.offset (f.offset+fi.size))[i]? = some us[f.offset+i]:=by
         rw [Array.getElem?_extract,if_pos (by omega),Array.getElem?_eq_getElem hlt]
        have hp:=Vp (P:=P) (w:=w) hk rfl hg
        have hc:(Instr.checkKey em (n+1) el us[f.offset+i]).run P w = .ok () w:=by simp [Instr.checkKey,run_underlying hk]
        have i2:=ih2 (fun j hj=>hl j (List.mem_cons_of_mem _ hj))
        rw [List.forIn_cons]
        simp only [Sem.run_bind,run_sizeOf w hie,hc1,Nat.mul_one,Result.andThen_ok,hp,hc,Sem.run_pure]
        simpa only [Sem.run_bind] using i2
      have:=loop (List.range' 0 m) (fun i hi=>by simpa using hi)
      simp only [this,Result.andThen_ok,Sem.run_pure]
     rw [List.forIn_cons,Sem.run_bind]
     have step:(do
      if f.name ≠ "_" then Instr.checkKey em (n+2) f.type (← part f.type us f.offset)
      pure (ForInStep.yield PUnit.unit):Sem (ForInStep PUnit)).run P w = .ok (ForInStep.yield PUnit.unit) w:=by
      simp [hname,part_arr (w:=w) hund hfi,hck]
     rw [step]
     simpa using ih
theorem K3a {t:Nat} {ti:TI} {i:TypeInfo} {d:TypeDesc} {z0:Value} {w:World} (ht:TIs P t ti i d z0) {k:Value} (h:keyT ti k = true) (em:Bool):(Instr.checkKey em 10000 t k).run P w = .ok () w:=by
 unfold keyT at h
 split at h
 ·rename_i fs0 es hk hes
  split at h <;> try cases h
  rename_i us
  obtain ⟨fs,rfl,_⟩:=ht.struct hk
  have he:=ht.eqs
  rw [hes] at he
  simp only [eqsOf] at he
  split at he <;> try cases he
  rename_i es' hfs
  split at he <;> cases he
  have:=checkS_run (P:=P) (em:=em) (n:=9997) (w:=w) (us:=us) _ _ hfs h
  show (Instr.checkKey em (9997+2+1) t (.agg us)).run P w = .ok () w
  rw [Instr.checkKey]
  simp only [Sem.run_bind,run_underlying ht.und,Result.andThen_ok]
  rw [← Array.forIn_toList]
  simp only [this,Result.andThen_ok]
  try rfl
 ·rw [← ht.kind] at h
  exact MapKept.run_checkKey ht.und (isKey_of h) em 9999
theorem findAsk_run {kt:Nat} {w:World} {same:Value→Value→Option Bool} (hs:∀ a b r,same a b = some r→(Op.equal kt a b).run P w = .ok r w) {k:Value}:∀ (l:List (Value×Value)) (n i:Nat) (r:Option (Nat×Value)),Yba same k l i = some r→(Instr.findAsking kt k (Z5 n l) i).run P w = .ok r w
 | [],n,i,r,h=>by cases h; simp [Z5,Instr.findAsking]
 | (k',v) :: l,n,i,r,h=>by
  simp only [Yba] at h
  split at h
  ·rename_i e
   cases h
   simp [Z5,Instr.findAsking,hs _ _ _ e]
  ·rename_i e
   have:=findAsk_run hs l (n+1) (i+1) r h
   simp [Z5,Instr.findAsking,hs _ _ _ e,this]
  ·cases h
theorem findNow_run {ti:TI} {d:TypeDesc} (hd:∀ a b r,W4a ti a b = some r→sameK (Kw d) a b = some r) {k:Value}:∀ (l:List (Value×Value)) (n i:Nat) (r:Option (Nat×Value)),Yba (W4a ti) k l i = some r→Instr.findNow d k (Z5 n l) i = some r
 | [],n,i,r,h=>by cases h; rfl
 | (k',v) :: l,n,i,r,h=>by
  simp only [Yba] at h
  split at h
  ·rename_i e
   cases h
   simp [Z5,Instr.findNow,sameNow_of (hd _ _ _ e)]
  ·rename_i e
   have:=findNow_run hd l (n+1) (i+1) r h
   simp [Z5,Instr.findNow,sameNow_of (hd _ _ _ e),this]
  ·cases h
theorem run_findT (g:Gh) {t:Nat} {ti:TI} {i:TypeInfo} {d:TypeDesc} {z0:Value} {w:World} (ht:TIs P t ti i d z0) {k:Value} {l:List (Value×Value)} {r:Option (Nat×Value)} (h:Yba (W4a ti) k l 0 = some r):(Instr.findKey t k (Z5 0 l)).run P w = .ok r w:=by
 by_cases hc:∃ fs es,ti.kind = .struct fs∧ti.eqs = some es
 ·obtain ⟨fs,es,hk,hes⟩:=hc
  obtain ⟨fields,hd,_⟩:=ht.struct hk
  rw [run_findKey_eq w (by rw [ht.und,hd])]
  refine findAsk_run (fun a b r hr=>?_) l 0 0 r h
  unfold W4a at hr
  rw [hk,hes] at hr
  simp only at hr
  split at hr <;> try cases hr
  rename_i us vs
  split at hr <;> try cases hr
  rename_i ho
  simp only [Bool.and_eq_true] at ho
  split at hr
  ·rename_i e
   split at hr <;> cases hr
   exact eqS_run g ht hk hes ho.1 ho.2 e
  ·exact eqS_run g ht hk hes ho.1 ho.2 hr
 ·refine MapKept.run_findKey ht.und (findNow_run (ti:=ti) (fun a b r hr=>?_) l 0 0 r h)
  unfold W4a at hr
  split at hr
  ·rename_i h1 h2; exact absurd ⟨_,_,h1,h2⟩ hc
  ·rw [ht.kind]; exact hr
theorem lookIx {ki:TI} {k:Value}:∀ (l:List (Value×Value)) (n:Nat) (r:Option Value),lookNow ki l k = some r→∃ r',Yba (W4a ki) k l n = some r'∧r'.map (·.2) = r
 | [],n,r,h=>by cases h; exact ⟨none,rfl,rfl⟩
 | (k',v) :: l,n,r,h=>by
  simp only [lookNow] at h
  split at h
  ·rename_i e
   cases h
   exact ⟨some (n,v),by simp [Yba,e],rfl⟩
  ·rename_i e
   obtain ⟨r',h1,h2⟩:=lookIx l (n+1) r h
   exact ⟨r',by simpa [Yba,e] using h1,h2⟩
  ·cases h
theorem atMap_run {g:Gh} {h:Hp} {w:World} (hh:HR g h w) {m:Value} {l:List (Value×Value)} (hl:atMap h m = some l):(m = .map none∧l = [])∨∃ b,m = .map (some b)∧w.heap[b]? = some (Yo l)∧h.r b = some (Yo l):=by
 unfold atMap at hl
 split at hl
 ·cases hl; exact .inl ⟨rfl,rfl⟩
 ·rename_i b
  split at hl
  ·rename_i o ho
   have:=Yyb hl
   subst this
   exact .inr ⟨b,rfl,(hh.raw b _ ho).1.1,ho⟩
  ·cases hl
 ·cases hl
theorem VR.const2 {g:Gh} (u v:Value):VR g (.tup [Y3 u,Y3 v]) (.tuple #[u,v]):=by
 simp only [VR]; exact ⟨_,rfl,Wf g u,Wf g v,trivial⟩
theorem rowAV_ok {g:Gh} {h:Hp} {w:World} (hh:HR g h w) (v:Value):VR g (rowAV h v) v:=by
 unfold rowAV
 split
 ·rename_i b n cap
  split
  ·rename_i o ho
   split
   ·rename_i e m hty
    split
    ·rename_i hc
     obtain ⟨⟨_,q2⟩,c,e',_,q4,_⟩:=hh.ob b o ho
     obtain ⟨n2,q5,q6⟩:=q2 e m hty
     simp only [VR]
     refine ⟨_,cap,rfl,hc.2.1,rfl,.inr ⟨by simp,e,n2,q5,?_⟩⟩
     rw [q6 hc.1,Nat.zero_add]; exact hc.2.2
    ·exact Wf g _
   ·exact Wf g _
  ·exact Wf g _
 ·exact Wf g _
theorem mapAV_ok {g:Gh} {h:Hp} {w:World} (hh:HR g h w) (ei:TI) (v:Value):VR g (mapAV ei h v) v:=by
 unfold mapAV
 split
 ·exact rowAV_ok hh v
 ·exact Wf g v
theorem aLook_run (hT:Kb P T) {g:Gh} {h:Hp} {w:World} (hh:HR g h w) {t:Nat} {x i:AV} {u v:Value} (hx:VR g x u) (hi:VR g i v) {ok:Bool} {k:AV→Hp→Prop} (hk:aLook T t x i ok h k) :
  ∃ r y,(Instr.lookup t u v ok).run P w = .ok r w∧VR g y r∧k y h:=by
 unfold aLook at hk
 split at hk <;> try exact hk.elim
 rename_i ti m iv hti hiv
 have:=fixV_ok hi hiv
 subst this
 split at hk <;> try exact hk.elim
 rename_i kt et hkk
 split at hk <;> try exact hk.elim
 rename_i ki ei hki hei
 obtain ⟨hkey,hk⟩:=hk
 split at hk <;> try exact hk.elim
 rename_i l hl
 obtain ⟨i1,d1,z1,t1⟩:=hT.get hti
 obtain ⟨i2,d2,z2,t2⟩:=hT.get hki
 obtain ⟨i3,d3,z3,t3⟩:=hT.get hei
 have u1:=t1.und; rw [t1.map hkk] at u1
 simp only [VR] at hx
 subst hx
 have hz:(zeroValue et).run P w = .ok (Xza ei) w:=by rw [zeroV_ok t3]; exact t3.run_zero w
 have run:∀ r',Yba (W4a ki) v l 0 = some r'→(Instr.lookup t u v ok).run P w = .ok (match r' with
   | some (_,y)=>if ok then .tuple #[y,.bool true] else y
   | none=>if ok then .tuple #[Xza ei,.bool false] else Xza ei) w:=by
  intro r' hr'
  have hfind:=run_findT g (w:=w) t2 hr'
  rcases atMap_run hh hl with ⟨rfl,rfl⟩ | ⟨b,rfl,hb,_⟩
  ·cases hr'
   have hfind':(Instr.findKey kt v ([]:List MapEntry)).run P w = .ok none w:=hfind
   simp only [Instr.lookup,Sem.run_bind,run_underlying u1,Result.andThen_ok,Sem.run_pure,K3a t2 hkey,Array.toList_empty,hfind',hz]
  ·have hg:(getObj b).run P w = .ok (Yo l) w:=MapKept.run_getObj_map hb
   simp only [Yo] at hg
   simp only [Instr.lookup,Sem.run_bind,run_underlying u1,Result.andThen_ok,Sem.run_pure,hg,K3a t2 hkey,List.toList_toArray,hfind]
   cases r' with
   | none=>simp only [Sem.run_bind,hz,Result.andThen_ok,Sem.run_pure]
   | some p=>simp only [Sem.run_pure,Result.andThen_ok]; cases ok <;> rfl
 split at hk <;> try exact hk.elim
 ·rename_i y hy
  obtain ⟨r',h1,h2⟩:=lookIx (ki:=ki) (k:=v) l 0 _ hy
  cases r' with
  | none=>cases h2
  | some p=>
   obtain ⟨j,q⟩:=p
   cases h2
   refine ⟨_,_,run _ h1,?_,hk⟩
   cases ok
   ·exact mapAV_ok hh ei _
   ·simp only [if_true,VR]; exact ⟨_,rfl,mapAV_ok hh ei _,by simp [VR,Zk],trivial⟩
 ·rename_i hy
  obtain ⟨r',h1,h2⟩:=lookIx (ki:=ki) (k:=v) l 0 _ hy
  cases r' with
  | some p=>cases h2
  | none=>
   refine ⟨_,_,run _ h1,?_,hk⟩
   cases ok
   ·exact Wf g _
   ·simp only [if_true,VR]; exact ⟨_,rfl,Wf g _,by simp [VR,Zk],trivial⟩
theorem J2a:∀ (n:Nat) (l:List (Value×Value)) (k v:Value),Z5 n (l++[(k,v)]) = Z5 n l++[{ key:=k,val:=v,born:=n+l.length }]
 | n,[],k,v=>rfl
 | n,p :: l,k,v=>by
  simp only [List.cons_append,Z5,J2a (n+1) l k v,List.length_cons]
  rw [show n+1+l.length = n+(l.length+1) from by omega]
theorem upd_of {ki:TI} {k x:Value}:∀ (l:List (Value×Value)) (n:Nat) (l':List (Value×Value)),updNow ki l k x = some l' →
  (Yba (W4a ki) k l n = some none∧l' = l++[(k,x)]) ∨
  ∃ i v,Yba (W4a ki) k l n = some (some (n+i,v))∧(∃ k',l[i]? = some (k',v)∧W4a ki k k' = some true)∧l' = l.set i (k,x)
 | [],n,l',h=>by cases h; exact .inl ⟨rfl,rfl⟩
 | (k',v) :: l,n,l',h=>by
  simp only [updNow] at h
  split at h
  ·rename_i e
   cases h
   exact .inr ⟨0,v,by simp [Yba,e],⟨k',rfl,e⟩,rfl⟩
  ·rename_i e
   split at h <;> cases h
   rename_i l2 h2
   rcases upd_of l (n+1) l2 h2 with ⟨h3,rfl⟩ | ⟨i,u,h3,⟨k2,h4,h6⟩,rfl⟩
   ·exact .inl ⟨by simpa [Yba,e] using h3,rfl⟩
   ·refine .inr ⟨i+1,u,?_,⟨k2,by simpa using h4,h6⟩,rfl⟩
    rw [show n+(i+1) = n+1+i from by omega]
    simpa [Yba,e] using h3
  ·cases h
theorem Vh:∀ (n:Nat) (l:List (Value×Value)) (i:Nat),(Z5 n l)[i]? = (l[i]?).map fun p=>{ key:=p.1,val:=p.2,born:=n+i }
 | _,[],_=>by simp [Z5]
 | n,p :: l,0=>by simp [Z5]
 | n,p :: l,i+1=>by
  simp only [Z5,List.getElem?_cons_succ,Vh (n+1) l i]
  rw [show n+1+i = n+(i+1) from by omega]
theorem ba_beq {a b:ByteArray}:(a == b) = true↔a = b:=by
 have e:(a == b) = (a.data == b.data):=by cases a; cases b; rfl
 rw [e,beq_iff_eq]
 constructor
 ·intro h; cases a; cases b; simp only at h; rw [h]
 ·rintro rfl; rfl
theorem sameK_eq {kk:TK} {k k':Value} (h:sameK kk k k' = some true):k = k':=by
 cases kk <;> cases k <;> cases k' <;> simp_all [sameK,ba_beq]
theorem stays_run {ki:TI} {k k':Value} {w:World} (h:W4a ki k k' = some true):(Instr.keyThatStays k' k).run P w = .ok k w:=by
 unfold W4a at h
 split at h
 ·split at h <;> try cases h
  split at h <;> try cases h
  split at h
  ·split at h <;> cases h
   rename_i e
   simp [Instr.keyThatStays,e]
  ·rename_i e; exact absurd h e
 ·rename_i kk _ _
  have e:=sameK_eq h
  subst e
  have:Instr.sameBits 10000 k k = true:=by
   show Instr.sameBits (9999+1) k k = true
   cases kk <;> cases k <;> simp_all [sameK,Instr.sameBits,ba_beq]
  simp [Instr.keyThatStays,this]
theorem aUpdV_run (hT:Kb P T) {g:Gh} {h:Hp} {w:World} (hh:HR g h w) {t:Nat} {x i:AV} {u v z:Value} (hx:VR g x u) (hi:VR g i v) {k:AV→Hp→Prop} (hk:aUpdV T t x i z h k) :
  ∃ w' h',(Instr.mapUpdate t u v z).run P w = .ok () w'∧HR g h' w'∧k .any h':=by
 unfold aUpdV at hk
 split at hk <;> try exact hk.elim
 rename_i ti b iv hti hiv
 have:=fixV_ok hi hiv
 subst this
 split at hk <;> try exact hk.elim
 rename_i kt et o hkk ho
 split at hk <;> try exact hk.elim
 rename_i ki l hki hl
 obtain ⟨hkey,hk⟩:=hk
 split at hk <;> try exact hk.elim
 rename_i l' hl'
 have:=Yyb hl
 subst this
 obtain ⟨i1,d1,z1,t1⟩:=hT.get hti
 obtain ⟨i2,d2,z2,t2⟩:=hT.get hki
 have u1:=t1.und; rw [t1.map hkk] at u1
 simp only [VR] at hx
 subst hx
 have hb:=(hh.raw b _ ho).1.1
 have hg:(getObj b).run P w = .ok (.map (Z5 0 l).toArray l.length) w:=MapKept.run_getObj_map hb
 have hs:∀ o',(setObj b o').run P w = .ok () (w.putObj b o'):=fun o'=>MapKept.run_setObj_map o' hb
 refine ⟨w.putObj b (Yo l'),_,?_,hh.putRaw ho (notCells_map l'),hk⟩
 rcases upd_of (ki:=ki) l 0 l' hl' with ⟨h3,rfl⟩ | ⟨j,q,h3,⟨k',h4,h6⟩,rfl⟩
 ·simp only [Instr.mapUpdate,Sem.run_bind,run_underlying u1,Result.andThen_ok,hg,K3a t2 hkey,List.toList_toArray,run_findT g t2 h3,hs]
  congr 2
  simp [Yo,J2a]
 ·rw [Nat.zero_add] at h3
  have hj:(Z5 0 l).toArray[j]? = some { key:=k',val:=q,born:=j }:=by
   rw [List.getElem?_toArray,Vh,h4]; simp
  simp only [Instr.mapUpdate,Sem.run_bind,run_underlying u1,Result.andThen_ok,hg,K3a t2 hkey,List.toList_toArray,run_findT g t2 h3,hj,Option.map_some,Option.getD_some,stays_run h6,hs]
  congr 2
  simp only [Yo,List.length_set]
  congr 1
  apply Array.ext'
  apply List.ext_getElem?
  intro m
  have hlt:=(List.getElem?_eq_some_iff.1 h4).1
  rw [Array.toList_modify,List.getElem?_modify,List.toList_toArray,List.toList_toArray,Vh,Vh,List.getElem?_set]
  by_cases e:j = m
  ·subst e
   simp [h4,hlt]
  ·simp [e]
theorem HR.reTy {g:Gh} {h:Hp} {w:World} (hh:HR g h w) {b:Nat} {o:Ob} (ho:h b = some o) {e m:Nat} (hs:g.shp b = some (e,m)):HR g (h.upd b ⟨o.sz,o.rows,some (e,m)⟩) w:=by
 have ob:∀ x y,(h.upd b ⟨o.sz,o.rows,some (e,m)⟩) x = some y→(g.fz x = none∧TyOK (g.shp x) y.ty)∧∃ c e,Ydb w x c e∧g.shp x = some (e,c.size)∧Z0 g c y.sz 0 y.rows:=fun x y hx=>by
  by_cases e2:x = b
  ·subst e2
   rw [Hp.upd_same] at hx; cases hx
   obtain ⟨⟨q1,_⟩,q3⟩:=hh.ob x o ho
   exact ⟨⟨q1,by rw [hs]; exact TyOK.var e m⟩,q3⟩
  ·rw [Hp.upd_ne _ _ e2] at hx; exact hh.ob x y hx
 exact { hh with ob:=ob,raw:=hh.raw }
theorem aUpd_run (hT:Kb P T) {g:Gh} {h:Hp} {w:World} (hh:HR g h w) {t:Nat} {x i y:AV} {u v z:Value} (hx:VR g x u) (hi:VR g i v) (hy:VR g y z) {k:AV→Hp→Prop} (hk:aUpd T t x i y h k) :
  ∃ w' h',(Instr.mapUpdate t u v z).run P w = .ok () w'∧HR g h' w'∧k .any h':=by
 unfold aUpd at hk
 split at hk
 ·rename_i z' hz
  have:=fixV_ok hy hz
  subst this
  exact aUpdV_run hT hh hx hi hk
 ·rename_i b sz n _
  split at hk <;> try exact hk.elim
  rename_i o ho
  split at hk <;> try exact hk.elim
  rename_i e m0 hty
  obtain ⟨rfl,hn,hs,hk⟩:=hk
  simp only [VR] at hy
  obtain ⟨a,cap,rfl,hc,_,hy⟩:=hy
  rcases hy with hy | ⟨rfl,e',m,h1,h2⟩
  ·omega
  rw [Nat.zero_add] at h2
  obtain ⟨n2,q5,_⟩:=(hh.ob b o ho).1.2 e m0 hty
  rw [h1] at q5; cases q5
  have:=hk cap m hc h2
  simp only [Nat.zero_mul]
  exact aUpdV_run hT (hh.reTy ho h1) hx hi this
 ·exact hk.elim
theorem aRange_run (hT:Kb P T) {g:Gh} {h:Hp} {w:World} (hh:HR g h w) {t:Nat} {x:AV} {u:Value} (hx:VR g x u) {k:AV→Hp→Prop} (hk:X3b T t x h k) :
  ∃ r w' h',(Instr.range t u).run P w = .ok r w'∧HR g h' w'∧k (.val r) h':=by
 unfold X3b at hk
 split at hk <;> try exact hk.elim
 rotate_left
 ·rename_i ti s hti
  split at hk <;> try exact hk.elim
  rename_i hkk
  obtain ⟨i1,d1,z1,t1⟩:=hT.get hti
  have u1:=t1.und; rw [t1.str hkk] at u1
  simp only [VR] at hx
  subst hx
  refine ⟨_,_,_,?_,hh.allocRaw (o:=.stringIter s 0) rfl,hk _ hh.freshR⟩
  simp [Instr.range,run_underlying u1,Result.andThen]
 rename_i ti b hti
 split at hk <;> try exact hk.elim
 rename_i kt et o hkk ho
 split at hk <;> try exact hk.elim
 rename_i l hl
 have:=Yyb hl
 subst this
 obtain ⟨i1,d1,z1,t1⟩:=hT.get hti
 have u1:=t1.und; rw [t1.map hkk] at u1
 simp only [VR] at hx
 subst hx
 have hb:=(hh.raw b _ ho).1.1
 have hg:(getObj b).run P w = .ok (.map (Z5 0 l).toArray l.length) w:=MapKept.run_getObj_map hb
 refine ⟨_,_,_,?_,hh.allocRaw (o:=Vg b l.length #[]) rfl,hk _ hh.freshR⟩
 simp [Instr.range,run_underlying u1,hg,Result.andThen,Vg]
theorem iterAt_run {g:Gh} {h:Hp} {w:World} (hh:HR g h w) {x:AV} {u:Value} (hx:VR g x u) {r b n:Nat} {seen:Array Nat} {l:List (Value×Value)} (hi:iterAt h x = some (r,b,n,seen,l)) :
  u = .pointer (some ⟨r,0,none⟩)∧n = l.length∧h.r r = some (Vg b l.length seen)∧w.heap[r]? = some (Vg b l.length seen)∧w.heap[b]? = some (Yo l):=by
 unfold iterAt at hi
 split at hi <;> try cases hi
 rename_i r'
 split at hi <;> try cases hi
 rename_i b' n' seen' c' hr
 split at hi <;> try cases hi
 rename_i o ho
 split at hi <;> try cases hi
 rename_i l' hl
 split at hi <;> cases hi
 rename_i hc
 obtain ⟨rfl,rfl⟩:=hc
 have:=Yyb hl
 subst this
 simp only [VR] at hx
 exact ⟨hx,rfl,hr,(hh.raw _ _ hr).1.1,(hh.raw _ _ ho).1.1⟩
theorem left_mem {l:List (Value×Value)} {seen:Array Nat} {e:MapEntry} (h:e∈(leftOf (Z5 0 l).toArray seen).toList):e.born∈Y9a l.length seen∧l[e.born]? = some (e.key,e.val)∧e∈Z5 0 l:=by
 simp only [leftOf,Array.toList_filter,List.toList_toArray,List.mem_filter] at h
 obtain ⟨h1,h2⟩:=h
 obtain ⟨i,hi⟩:=List.getElem?_of_mem h1
 rw [Vh,Nat.zero_add] at hi
 cases hp:l[i]? with
 | none=>rw [hp] at hi; cases hi
 | some p=>
  rw [hp] at hi
  simp only [Option.map_some,Option.some.injEq] at hi
  subst hi
  have hlt:=(List.getElem?_eq_some_iff.1 hp).1
  exact ⟨by simp only [Y9a,List.mem_filter,List.mem_range]; exact ⟨hlt,h2⟩,hp,h1⟩
theorem aNext_run {g:Gh} {h:Hp} {w:World} (hh:HR g h w) {x:AV} {u:Value} (hx:VR g x u) {ty:TypeId} {k:AV→Hp→Prop} (hk:aNext x h k) :
  ∃ r y w' h',(Instr.next u false ty).run P w = .ok r w'∧VR g y r∧HR g h' w'∧k y h':=by
 unfold aNext at hk
 split at hk <;> try exact hk.elim
 rename_i r b n seen l hi
 obtain ⟨rfl,rfl,h1,h2,h3⟩:=iterAt_run hh hx hi
 have hold:∀ e∈(Z5 0 l).toArray.toList,e.born < l.length:=fun e he=>by
  rw [List.toList_toArray] at he
  have:e.born∈(Z5 0 l).map (·.born):=List.mem_map_of_mem he
  rw [Zba] at this
  simp at this; exact this
 rcases run_next_at (P:=P) w ty r b l.length l.length seen (Z5 0 l).toArray l.length h2 h3 hold (Nat.le_refl _) with ⟨q1,q2⟩ | ⟨e,q1,w1,q2,q3⟩
 ·refine ⟨_,.tup [Zk false],w,h,q2,by simp only [VR]; exact ⟨_,rfl,by simp [VR,Zk],trivial⟩,hh,hk.1 ?_⟩
  cases hm:Y9a l.length seen with
  | nil=>rfl
  | cons i is=>
   exfalso
   have hmem:i∈Y9a l.length seen:=by rw [hm]; simp
   simp only [Y9a,List.mem_filter,List.mem_range] at hmem
   have:(leftOf (Z5 0 l).toArray seen).toList = []:=by
    apply List.eq_nil_of_length_eq_zero; rw [Array.length_toList]; exact q1
   have hx:({ key:=(l[i]'hmem.1).1,val:=(l[i]'hmem.1).2,born:=i }:MapEntry)∈(leftOf (Z5 0 l).toArray seen).toList:=by
    simp only [leftOf,Array.toList_filter,List.toList_toArray,List.mem_filter]
    refine ⟨List.mem_of_getElem? (i:=i) ?_,hmem.2⟩
    rw [Vh,Nat.zero_add,List.getElem?_eq_getElem hmem.1]; rfl
   rw [this] at hx; cases hx
 ·obtain ⟨m1,m2,m3⟩:=left_mem q1
  have hw1:HR g h w1:=by
   rcases q2 with rfl | rfl
   ·exact hh
   ·exact hh.drew
  refine ⟨_,.tup [Zk true,Y3 e.key,Y3 e.val],_,_,q3,?_,hw1.putRaw (o':=Vg b l.length (seen.push e.born)) h1 rfl,hk.2 e.born m1 (e.key,e.val) m2⟩
  simp only [VR]
  exact ⟨_,rfl,by simp [VR,Zk],Wf g _,Wf g _,trivial⟩
theorem aNextS_run {g:Gh} {h:Hp} {w:World} (hh:HR g h w) {x:AV} {u:Value} (hx:VR g x u) {ty:TypeId} {k:AV→Hp→Prop} (hk:aNextS x h k) :
  ∃ r y w' h',(Instr.next u true ty).run P w = .ok r w'∧VR g y r∧HR g h' w'∧k y h':=by
 unfold aNextS at hk
 split at hk <;> try exact hk.elim
 rename_i r
 split at hk <;> try exact hk.elim
 rename_i s pos hr
 simp only [VR] at hx; subst hx
 have hw:=(hh.raw _ _ hr).1.1
 split at hk
 ·rename_i hp
  refine ⟨.tuple #[.bool true,.int .i64 pos,.int .i32 (Utf8.decode s pos).1],.tup [Zk true,aint pos,.val (.int .i32 (Utf8.decode s pos).1)],w.putObj r (.stringIter s (pos+(Utf8.decode s pos).2)),_,?_,?_,hh.putRaw (o':=.stringIter s (pos+(Utf8.decode s pos).2)) hr rfl,hk⟩
  ·simp only [Instr.next,getObj,setObj,Sem.run_bind,Sem.run,hw,Result.andThen,hp,if_true]
   simp [goInt,World.putObj]
  ·simp only [VR]; exact ⟨_,rfl,by simp [VRs,VR,Zk,aint]⟩
 ·rename_i hp
  refine ⟨.tuple #[.bool false],.tup [Zk false],w,h,?_,by simp only [VR]; exact ⟨_,rfl,by simp [VRs,VR,Zk]⟩,hh,hk⟩
  simp [Instr.next,getObj,Sem.run,hw,hp]
theorem aEntry_run {g:Gh} {h:Hp} {w:World} (hh:HR g h w) {x:AV} {u:Value} (hx:VR g x u) {k:AV→Hp→Prop} (hk:aEntry x h k) :
  ∃ r y,(Instr.entry u).run P w = .ok r w∧VR g y r∧k y h:=by
 unfold aEntry at hk
 split at hk <;> try exact hk.elim
 rename_i r b n seen l hi
 obtain ⟨rfl,rfl,h1,h2,h3⟩:=iterAt_run hh hx hi
 split at hk <;> try exact hk.elim
 rename_i i hs
 split at hk <;> try exact hk.elim
 rename_i p hp
 have hpush:seen = seen.pop.push i:=by
  rw [Array.back?_eq_some_iff] at hs
  obtain ⟨ys,rfl⟩:=hs
  simp
 have he:({ key:=p.1,val:=p.2,born:=i }:MapEntry)∈(Z5 0 l).toArray.toList:=by
  rw [List.toList_toArray]
  refine List.mem_of_getElem? (i:=i) ?_
  rw [Vh,hp,Nat.zero_add]; rfl
 have hn:((Z5 0 l).toArray.toList.map (·.born)).Nodup:=by
  rw [List.toList_toArray,Zba]; exact List.nodup_range'
 have:=run_entry_at (P:=P) w r b l.length seen.pop (Z5 0 l).toArray l.length ⟨p.1,p.2,i⟩ (by rw [← hpush]; exact h2) h3 he hn
 exact ⟨_,_,this,VR.const2 _ _,hk⟩
set_option maxHeartbeats 1000000 in
theorem aRes_run (hT:Kb P T) {pu:Bool} {o:Oper} {ρ:Operand→AV} {h:Hp} {k X:AV→Hp→Prop} (hr:aRes P T pu o.op ρ h k X) (hy:yieldOf o.op ρ = none) {g:Gh} {w:World} {a:Act} (hρ:∀ x,VR g (ρ x) (a.eval x)) (hh:HR g h w)
  {K:Act→World→Prop} {Q:Exit→Act→World→Prop} (hk:∀ g' x v h' w',g.le g'→VR g' x v→HR g' h' w'→k x h'→K (a.put o.dst v) w')
  (hX:∀ g' x v h' w',g.le g'→VR g' x v→HR g' h' w'→X x h'→Q (.panic [{ v,recovered:=false }]) a w'):o.wp P a w K Q:=by
 have fin:∀ {s:Sem Value} {r:Value} {w':World},execOp a.eval o = (do pure (Next.value (← s)):Sem Next)→s.run P w = .ok r w'→K (a.put o.dst r) w'→o.wp P a w K Q:=by
  intro s r w' h1 h2 h3
  unfold Oper.wp
  rw [h1,Sem.run_bind,h2]
  exact h3
 have calm:(match Wz T o.op ρ with | some x=>k x h | none=>False)→o.wp P a w K Q:=by
  intro hc
  split at hc
  ·rename_i x hx
   obtain ⟨r,h1,h2⟩:=acalm_run hT hh hρ hx
   unfold Oper.wp
   rw [h1]
   exact hk g x r h w (Gh.le.refl g) h2 hh hc
  ·exact hc.elim
 have calls:∀ {f:Operand} {args:Array Operand} {tys:Array TypeId} {n:Nat} {fs cs:Array Value},o.op = .call ⟨.value f,args,tys⟩→a.eval f = .func (.func n) fs cs→callable P n →
   Calls P n (fs++args.map a.eval++cs) w (fun
    | .returned v,w''=>K (a.put o.dst v) w''
    | .panicked chain,w''=>Q (.panic chain) a w''
    | .outgrown,_=>LetsOut Q)→o.wp P a w K Q:=by
  rintro f args tys n fs cs ho hf ⟨fn,c1,c2,c3⟩ hc
  have hb:¬ fn.body = none:=by intro e; rw [e] at c3; cases c3
  have hn:fn.name ≠ "runtime.NumGoroutine":=by simpa using c2
  have:(execOp a.eval o).run P w = .ok (.enter n (fs++args.map a.eval++cs)) w:=by
   simp [execOp,ho,resolve,hf,Deferred.ofValue,invoke,callFunc,c1,hn,hb]
  unfold Oper.wp
  rw [this]
  exact hc
 unfold aRes at hr
 split at hr
 ·
  rename_i t ho
  split at hr <;> try exact hr.elim
  rename_i ti hti
  obtain ⟨i,d,z,ht⟩:=hT.get hti
  obtain ⟨z1,z2⟩:=zero_cells (g:=g) ht
  have hrow:=one_row z1
  rw [← z2,ht.zsize] at hrow
  obtain ⟨a1,a2⟩:=hh.alloc (e:=t) hrow (some (t,ti.size)) (by rw [ht.zsize]; exact TyOK.var t _)
  refine fin (s:=Instr.alloc t true (.tuple #[])) (by simp only [execOp,ho]) (alloc_run ht _) ?_
  exact hk _ _ _ _ _ a1 (by simp [VR]) a2 (hr _ hh.fresh.1)
 ·
  rename_i t x ho
  split at hr <;> try exact hr.elim
  rename_i ti hti
  obtain ⟨i,d,z,ht⟩:=hT.get hti
  obtain ⟨h1,h2,h3⟩:=hr
  obtain ⟨x1,x2⟩:=(hρ x).okCells h1
  have hrow:=one_row x1
  rw [h2] at hrow
  obtain ⟨a1,a2⟩:=hh.alloc (e:=t) hrow (some (t,ti.size)) (by rw [x2,h2]; exact TyOK.var t _)
  refine fin (s:=Instr.box t (a.eval x)) (by simp only [execOp,ho]) (r:=.pointer (some ⟨w.heap.size,0,none⟩)) (w':=w.alloc (.cells (a.eval x).cells t)) (by simp [Instr.box,newVar,newRow]) ?_
  exact hk _ _ _ _ _ a1 (by simp [VR]) a2 (h3 _ hh.fresh.1)
 ·
  rename_i t x ho
  have hx:=hρ x
  split at hr
  ·rename_i b sz i c hq
   split at hr <;> try exact hr.elim
   split at hr <;> try exact hr.elim
   rename_i ti o' hti hb
   split at hr <;> try exact hr.elim
   rename_i r hrow
   obtain ⟨hsz,hr⟩:=hr
   split at hr <;> try exact hr.elim
   rename_i y hy
   obtain ⟨i',d,z,ht⟩:=hT.get hti
   rw [hq] at hx
   simp only [VR] at hx
   obtain ⟨q1,cur,e,⟨fr,q2,qt⟩,q3,q4⟩:=hh.ob b o' hb
   obtain ⟨l1,l2⟩:=q4.get hrow
   obtain ⟨v,hv1,hv2⟩:=load_run (w:=w) hT ht l2 hy (a:=⟨b,i * sz+c,none⟩) rfl (by simp [hsz]) q2
   refine fin (s:=Instr.loadAt t (a.eval x)) (by simp only [execOp,ho]) (by simp [Instr.loadAt,hx,Instr.sureAddr,hv1]; exact ⟨rfl,rfl⟩) ?_
   exact hk _ _ _ _ _ (Gh.le.refl g) hv2 hh hr
  ·split at hr <;> try exact hr.elim
   rename_i z hz
   obtain ⟨v,hv1,hv2⟩:=aloadI_run hT hh hx hz
   exact fin (s:=Instr.loadAt t (a.eval x)) (by simp only [execOp,ho]) hv1 (hk _ _ _ _ _ (Gh.le.refl g) hv2 hh hr)
 ·
  rename_i t p x ho
  have hp:=hρ p
  split at hr <;> try exact hr.elim
  rename_i ti b sz i c hti hq
  split at hr <;> try exact hr.elim
  rename_i o' hb
  split at hr <;> try exact hr.elim
  rename_i r hrow
  obtain ⟨h1,h2,h3,h4,h5⟩:=hr
  obtain ⟨i',d,z,ht⟩:=hT.get hti
  rw [hq] at hp
  simp only [VR] at hp
  obtain ⟨w',s1,s2⟩:=store_run hh ht hb hrow h1 (hρ x) h2 h3 h4
  unfold Oper.wp
  have:(execOp a.eval o).run P w = .ok .skip w':=by
   simp [execOp,ho,Instr.storeAt,hp,Instr.sureAddr,s1]
  rw [this]
  exact hk _ .any undef _ _ (Gh.le.refl g) (by simp [VR]) s2 h5
 ·
  rename_i t len parts ho
  split at hr <;> try exact hr.elim
  rename_i ti hti
  split at hr <;> try exact hr.elim
  rename_i e hke
  split at hr <;> try exact hr.elim
  rename_i ei hei
  obtain ⟨h1,h2,h3⟩:=hr
  split at h3 <;> try exact h3.elim
  rename_i rows hrows
  obtain ⟨i1,d1,z1,ht1⟩:=hT.get hti
  obtain ⟨i2,d2,z2,ht2⟩:=hT.get hei
  have hund:=ht1.und; rw [ht1.sl hke] at hund
  have hz:=repl_rows (g:=g) ht2 len len (Nat.le_refl _)
  obtain ⟨c',f1,f2,f3⟩:=fill_rows (g:=g) (vs:=(parts.map fun (i,x)=>(i,a.eval x)).toList) h1 hz (by simp) (by rw [Array.toList_map]; exact PRs.of hρ _) hrows
  obtain ⟨a1,a2⟩:=hh.alloc (e:=e) f2 (some (e,0)) (TyOK.row e _)
  have hrun:(Instr.buildSlice t len (parts.map fun (i,x)=>(i,a.eval x))).run P w = .ok (.slice (some ⟨w.heap.size,0,none⟩) len len) (w.alloc (.cells c' e)):=by
   by_cases h0:len * ei.size = 0
   ·have hl0:len = 0:=by rcases Nat.mul_eq_zero.1 h0 with e | e <;> omega
    subst hl0
    have hp0:parts = #[]:=by
     apply Array.ext'
     cases e5:parts.toList with
     | nil=>rfl
     | cons p ps=>rw [e5] at hrows; simp [Jqa] at hrows
    subst hp0
    have hc0:c' = #[]:=by
     apply Array.eq_empty_of_size_eq_zero
     rw [f3]; simp
    subst hc0
    have er:Array.range 0 = #[]:=by apply Array.eq_empty_of_size_eq_zero; simp
    simp [Instr.buildSlice,run_underlying hund,sizeOf,typeInfo,ht2.info,newRow,Instr.fill,er]
   ·have hb1:¬ len * i2.size > 2 ^ 24:=by rw [ht2.size]; show ¬ len * ei.size > 16777216; omega
    have hb2:¬ len * i2.size = 0:=by rw [ht2.size]; exact h0
    rw [← ht2.size] at f1
    exact run_buildSlice w t e len _ c' i2 z2 hund ht2.info ht2.zero hb1 hb2 f1
  refine fin (s:=Instr.buildSlice t len (parts.map fun (i,x)=>(i,a.eval x))) (by simp only [execOp,ho]) hrun ?_
  refine hk _ (.osl w.heap.size ei.size 0 len) _ _ _ a1 ?_ a2 (h3 _ hh.fresh.1)
  simp only [VR]
  refine ⟨_,len,rfl,Nat.le_refl _,rfl,.inr ⟨by simp,e,c'.size,by simp [Gh.new],?_⟩⟩
  rw [Nat.zero_add,f3]; simp
 ·
  rename_i t l c ho
  split at hr <;> try exact hr.elim
  rename_i ti k1 m k2 n hti hl hc
  split at hr <;> try exact hr.elim
  rename_i e hke
  split at hr <;> try exact hr.elim
  rename_i ei hei
  obtain ⟨h1,h2,h3,h4,h5,h6⟩:=hr
  obtain ⟨i1,d1,z1,ht1⟩:=hT.get hti
  obtain ⟨i2,d2,z2,ht2⟩:=hT.get hei
  have hund:=ht1.und; rw [ht1.sl hke] at hund
  have el:=hρ l; rw [hl] at el; simp only [VR] at el
  have ec:=hρ c; rw [hc] at ec; simp only [VR] at ec
  have hrun:=run_make (P:=P) w t e i2 z2 hund ht2.info ht2.zero k1 k2 m n h2 h3 (by rw [ht2.bytes]; exact h4) h5
  have hrow:=repl_rows (g:=g) ht2 n.toNat m.toNat (by omega)
  rw [ht2.size] at hrun
  have hsz:(madeCells z2.cells (n.toNat * ei.size)).size = n.toNat * ei.size:=size_madeCells _ _
  have hrow':Z0 g (madeCells z2.cells (n.toNat * ei.size)) ei.size 0 (List.replicate m.toNat (ei.zero.map .val)):=hrow
  generalize madeCells z2.cells (n.toNat * ei.size) = c' at hrun hsz hrow'
  clear hrow
  obtain ⟨a1,a2⟩:=hh.alloc (e:=e) hrow' (some (e,0)) (TyOK.row e _)
  refine fin (s:=Instr.makeSlice t (a.eval l) (a.eval c)) (by simp only [execOp,ho]) (by rw [el,ec]; exact hrun) ?_
  refine hk _ (.osl w.heap.size ei.size 0 m.toNat) _ _ _ a1 ?_ a2 (h6 _ hh.fresh.1)
  simp only [VR]
  refine ⟨⟨w.heap.size,0,none⟩,n.toNat,rfl,by omega,rfl,.inr ⟨by simp,e,c'.size,by simp [Gh.new],?_⟩⟩
  rw [Nat.zero_add,hsz]; exact Nat.le_refl _
 ·
  rename_i args tys ho
  split at hr <;> try exact hr.elim
  rename_i s x t tx hargs htys
  obtain ⟨r,w',g',y,h',q1,q2,q3,q4,q5⟩:=aAppend_run (ty:=o.type) hT hh (hρ s) (hρ x) hr
  have ea:args.map a.eval = #[a.eval s,a.eval x]:=by
   apply Array.ext'; rw [Array.toList_map,hargs]; rfl
  have et:tys = #[t,tx]:=by apply Array.ext'; rw [htys]
  unfold Oper.wp
  have:(execOp a.eval o).run P w = .ok (.value r) w':=by
   simp [execOp,ho,resolve,invoke,builtin,ea,et,q1]
  rw [this]
  exact hk _ _ _ _ _ q2 q3 q4 q5
 ·
  rename_i f args tys ho
  have hf:=hρ f
  split at hr <;> try exact hr.elim
  rotate_left
  ·rename_i l gb hq
   rw [ho] at hy
   simp [yieldOf,hq] at hy
  rename_i n first caps hq
  rw [hq] at hf
  simp only [VR] at hf
  obtain ⟨fs,cs,e1,e2,e3⟩:=hf
  have hvs:VRs g (first++args.toList.map ρ++caps) (fs++args.map a.eval++cs).toList:=by
   rw [Array.toList_append,Array.toList_append,Array.toList_map]
   exact (e2.append (VRs.of hρ _)).append e3
  split at hr
  ·obtain ⟨x,hp,hkx⟩:=hr
   refine calls ho e1 (hp h).1 (hp.run hh hvs fun g' v w' b1 b2 b3=>?_)
   exact hk _ _ _ _ _ b1 b2 b3 hkx
  ·refine calls ho e1 hr.1 ((hr.2 g w _ hvs hh).mono ?_)
   rintro e w' ⟨g',h',E,b1,b2,b3,b4⟩
   cases E with
   | ret x=>
    cases e with
    | returned v=>exact hk _ _ _ _ _ b1 b4 b2 b3
    | panicked c=>exact b4.elim
    | outgrown=>exact b4.elim
   | pan x=>
    cases e with
    | returned v=>exact b4.elim
    | panicked c=>obtain ⟨v,rfl,hv⟩:=b4; exact hX _ _ _ _ _ b1 hv b2 b3
    | outgrown=>exact b4.elim
 ·
  rename_i x ho
  have hx:=hρ x
  split at hr <;> try exact hr.elim
  rename_i t y hq
  rw [hq] at hx
  have hx':=hx
  simp only [VR] at hx
  obtain ⟨u,hu,_⟩:=hx
  unfold Oper.wp
  have:(execOp a.eval o).run P w = .halt (.panic (.iface t u)) w:=by
   simp [execOp,ho,Instr.panic,hu]
  rw [this]
  rw [hu] at hx'
  exact hX _ _ _ _ _ (Gh.le.refl g) hx' hh hr
 ·
  rename_i args tys ho
  split at hr <;> try exact hr.elim
  rename_i x t hargs htys
  obtain ⟨w',h',q1,q2,q3⟩:=aClear_run (ty:=o.type) hT hh (hρ x) hr
  have ea:args.map a.eval = #[a.eval x]:=by
   apply Array.ext'; rw [Array.toList_map,hargs]; rfl
  have et:tys = #[t]:=by apply Array.ext'; rw [htys]
  unfold Oper.wp
  have:(execOp a.eval o).run P w = .ok (.value (.tuple #[])) w':=by
   simp [execOp,ho,resolve,invoke,builtin,ea,et,q1]
  rw [this]
  exact hk g (.tup []) _ _ _ (Gh.le.refl g) (by simp only [VR]; exact ⟨#[],rfl,by simp [VRs]⟩) q2 q3
 ·
  rename_i t ho
  split at hr <;> try exact hr.elim
  rename_i ti hti
  split at hr <;> try exact hr.elim
  refine fin (s:=Instr.makeMap t none) (by simp only [execOp,ho]; rfl) (r:=.map (some w.heap.size)) (w':=w.alloc (Yo [])) (by simp [Instr.makeMap,Yo,Z5,Result.andThen]) ?_
  exact hk g (.val (.map (some w.heap.size))) _ _ _ (Gh.le.refl g) (by simp [VR]) (hh.allocRaw (notCells_map [])) (hr _ hh.freshR)
 ·
  rename_i t x i ok ho
  obtain ⟨r,y,q1,q2,q3⟩:=aLook_run (P:=P) hT hh (hρ x) (hρ i) hr
  refine fin (s:=Instr.lookup t (a.eval x) (a.eval i) ok) (by simp only [execOp,ho]) q1 ?_
  exact hk g y _ _ _ (Gh.le.refl g) q2 hh q3
 ·
  rename_i t m i x ho
  obtain ⟨w',h',q1,q2,q3⟩:=aUpd_run (P:=P) hT hh (hρ m) (hρ i) (hρ x) hr
  unfold Oper.wp
  have:(execOp a.eval o).run P w = .ok .skip w':=by
   simp [execOp,ho,q1,Result.andThen]
  rw [this]
  exact hk g .any undef _ _ (Gh.le.refl g) (by simp [VR]) q2 q3
 ·
  rename_i t x ho
  obtain ⟨r,w',h',q1,q2,q3⟩:=aRange_run (P:=P) hT hh (hρ x) hr
  refine fin (s:=Instr.range t (a.eval x)) (by simp only [execOp,ho]) q1 ?_
  exact hk g (.val r) _ _ _ (Gh.le.refl g) (by simp [VR]) q2 q3
 ·
  rename_i x ho
  obtain ⟨r,y,w',h',q1,q2,q3,q4⟩:=aNext_run (P:=P) (ty:=o.type) hh (hρ x) hr
  refine fin (s:=Instr.next (a.eval x) false o.type) (by simp only [execOp,ho]) q1 ?_
  exact hk g y _ _ _ (Gh.le.refl g) q2 q3 q4
 ·
  rename_i x ho
  obtain ⟨r,y,w',h',q1,q2,q3,q4⟩:=aNextS_run (P:=P) (ty:=o.type) hh (hρ x) hr
  refine fin (s:=Instr.next (a.eval x) true o.type) (by simp only [execOp,ho]) q1 ?_
  exact hk g y _ _ _ (Gh.le.refl g) q2 q3 q4
 ·
  rename_i x ho
  obtain ⟨r,y,q1,q2,q3⟩:=aEntry_run (P:=P) hh (hρ x) hr
  refine fin (s:=Instr.entry (a.eval x)) (by simp only [execOp,ho]) q1 ?_
  exact hk g y _ _ _ (Gh.le.refl g) q2 hh q3
 ·
  rename_i op t x y yt ho
  split at hr
  ·rename_i z hz
   refine calm ?_
   rw [ho,hz]; exact hr
  ·obtain ⟨b,q1,q2⟩:=nilCmp_run (P:=P) (w:=w) (ox:=x) hT (hρ x) (a:=a) hr
   refine fin (s:=do eqGuard op t x y (a.eval x) (a.eval y); binOp op t (a.eval x) (a.eval y)) (by simp only [execOp,ho]) q1 ?_
   exact hk g (Zk b) _ _ _ (Gh.le.refl g) (by simp [VR,Zk]) hh q2
 ·
  rename_i s d x ho
  split at hr
  ·rename_i z hz
   refine calm ?_
   rw [ho,hz]; exact hr
  ·split at hr
   ·rename_i z hz
    obtain ⟨b,rfl,q2⟩:=aText_run hT hh (hρ x) hz
    refine fin (s:=convert s d (a.eval x)) (by simp only [execOp,ho]) q2 ?_
    exact hk g (astr b) _ _ _ (Gh.le.refl g) (by simp [VR,astr]) hh hr
   ·obtain ⟨u,w',g',y,h',q1,q2,q3,q4,q5⟩:=aBytes_run hT hh (hρ x) hr
    refine fin (s:=convert s d (a.eval x)) (by simp only [execOp,ho]) q1 ?_
    exact hk _ _ _ _ _ q2 q3 q4 q5
 ·exact calm hr
theorem calls_in {r:Option Nat} {n:Nat} {P:Program} {f:FuncId} {args:Array Value} {w:World} {R:Ending→World→Prop}:CallsIn (Fr r) n P f args w R↔Calls P f args w R:=callsIn_wide (n:=n)
theorem stepsIn_fr {P:Program} {r:Option Nat} {m m':Machine}:StepsIn (Machine.fenced P (Fr r)) P m m'↔Steps P m m':=stepsIn_wide
theorem wpIn_of_wp {P:Program} {r:Option Nat} {o:Oper} {a:Act} {w:World} {K:Act→World→Prop} {Q:Exit→Act→World→Prop} (hd:∀ c,o.op≠.defer c) (h:o.wp P a w K Q):o.wpIn (Fr r) 0 P a w K Q:=by
 refine ⟨fun _ _=>trivial,?_⟩
 rw [Oper.semAt_eq _ _ _ hd]
 unfold Oper.wp at h
 generalize (execOp a.eval o).run P w = res at h ⊢
 cases res with
 | ok x w'=>
  cases x <;> first | exact h | exact h.elim | skip
  ·exact ⟨fun e=>(by simp [Fr,Fence.wide] at e),calls_in.2 h⟩
  ·refine ⟨fun e=>(by simp [Fr,Fence.wide] at e),fun c cs _=>?_⟩
   obtain ⟨v,w2,q1,q2⟩:=h c cs
   exact ⟨v,w2,q1,stepsIn_fr.2 q2⟩
 | halt x w'=>cases x <;> first | exact h | exact h.elim
theorem aRes_in (hT:Kb P T) {r:Option Nat} {pu:Bool} {o:Oper} {ρ:Operand→AV} {h:Hp} {k X:AV→Hp→Prop} (hr:aRes P T pu o.op ρ h k X) {g:Gh} {w:World} {a:Act} (hρ:∀ x,VR g (ρ x) (a.eval x)) (hh:HR g h w)
  {K:Act→World→Prop} {Q:Exit→Act→World→Prop} (hk:∀ g' x v h' w',g.le g'→VR g' x v→HR g' h' w'→k x h'→K (a.put o.dst v) w')
  (hX:∀ g' x v h' w',g.le g'→VR g' x v→HR g' h' w'→X x h'→Q (.panic [{ v,recovered:=false }]) a w'):o.wpIn (Fr r) 0 P a w K Q:=by
 cases hy:yieldOf o.op ρ with
 | none=>
  refine wpIn_of_wp (fun c hc=>?_) (aRes_run hT hr hy hρ hh hk hX)
  rw [hc] at hr
  exact hr.elim
 | some q=>
  obtain ⟨l,gb⟩:=q
  obtain ⟨f,args,tys,ho,hq⟩:∃ f args tys,o.op = .call ⟨.value f,args,tys⟩∧ρ f = .yld l gb:=by
   unfold yieldOf at hy
   split at hy
   ·split at hy
    ·rename_i f args tys ho _ l' gb' hq
     cases hy
     exact ⟨f,args,tys,ho,hq⟩
    ·cases hy
   ·cases hy
  rw [ho] at hr
  simp only [aRes,hq] at hr
  split at hr
  ·exact hr.elim
  have hf:=hρ f
  rw [hq] at hf
  simp only [VR] at hf
  obtain ⟨e1,e2⟩:=hf
  obtain ⟨fn,tm,as_,bd,y1,y2⟩:=hr g w (args.map a.eval) e2 (by rw [Array.toList_map]; exact VRs.of hρ _) hh
  refine ⟨fun _ _=>trivial,?_⟩
  rw [Oper.semAt_eq _ _ _ (by rw [ho]; simp)]
  have:(execOp a.eval o).run P w = .ok (.round l fn tm as_ bd) w:=by
   simp [execOp,ho,resolve,e1,Deferred.ofValue,invoke,y1]
  rw [this]
  refine ⟨fun e=>(by simp [Fr,Fence.wide] at e),?_⟩
  refine RoundIn.mono (F:=Fr r) y2 ?_
  rintro e w' ⟨g',h',x,v,rfl,b1,b2,b3,b4⟩
  exact hk _ _ _ _ _ b1 b3 b2 b4
end
end Go.Proofs.YtpkhmfedaaoalaaGreatDoor.AM
