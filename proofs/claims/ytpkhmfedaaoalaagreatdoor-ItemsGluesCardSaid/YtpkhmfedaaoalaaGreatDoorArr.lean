/- ItemsGlues: a part of its proof (packed by a program). -/
import Derived.Test.YtpkhmfedaaoalaaGreatDoorOwn
import Derived.Test.YtpkhmfedaaoalaaGreatDoorTab
set_option linter.all false
namespace Go.Proofs.YtpkhmfedaaoalaaGreatDoor.AM
open Go
def Hp.join (a b:Hp):Hp:=⟨fun k=>match b k with | some o=>some o | none=>a k,fun k=>match b.r k with | some o=>some o | none=>a.r k⟩
def Hp.minus (h a:Hp):Hp:=⟨fun k=>match a k with | some _=>none | none=>h k,fun k=>match a.r k with | some _=>none | none=>h.r k⟩
structure Apart (a b:Hp):Prop where
 c:∀ k o,a k = some o→b k = none
 r:∀ k o,a.r k = some o→b.r k = none
theorem Apart.c' {a b:Hp} (h:Apart a b) {k:Nat} {o:Ob} (hb:b k = some o):a k = none:=by
 cases e:a k with
 | none=>rfl
 | some x=>rw [h.c k x e] at hb; cases hb
theorem Apart.r' {a b:Hp} (h:Apart a b) {k:Nat} {o:Obj} (hb:b.r k = some o):a.r k = none:=by
 cases e:a.r k with
 | none=>rfl
 | some x=>rw [h.r k x e] at hb; cases hb
def Spl (F a h:Hp):Prop:=h = F.join a∧Apart F a
theorem Hp.join_l {a b:Hp} {k:Nat} (h:b k = none):(a.join b) k = a k:=by simp [Hp.join,h]
theorem Hp.join_r {a b:Hp} {k:Nat} {o:Ob} (h:b k = some o):(a.join b) k = some o:=by simp [Hp.join,h]
theorem Hp.joinR_l {a b:Hp} {k:Nat} (h:b.r k = none):(a.join b).r k = a.r k:=by simp [Hp.join,h]
theorem Hp.joinR_r {a b:Hp} {k:Nat} {o:Obj} (h:b.r k = some o):(a.join b).r k = some o:=by simp [Hp.join,h]
theorem Hp.minus_n {h a:Hp} {k:Nat} (e:a k = none):(h.minus a) k = h k:=by simp [Hp.minus,e]
theorem Hp.minus_s {h a:Hp} {k:Nat} {o:Ob} (e:a k = some o):(h.minus a) k = none:=by simp [Hp.minus,e]
theorem Hp.minusR_n {h a:Hp} {k:Nat} (e:a.r k = none):(h.minus a).r k = h.r k:=by simp [Hp.minus,e]
theorem Hp.minusR_s {h a:Hp} {k:Nat} {o:Obj} (e:a.r k = some o):(h.minus a).r k = none:=by simp [Hp.minus,e]
theorem Spl.sub_r {F a h:Hp} (s:Spl F a h):a.sub h:=⟨fun k o e=>by rw [s.1]; exact Hp.join_r e,fun k o e=>by rw [s.1]; exact Hp.joinR_r e⟩
theorem Spl.sub_l {F a h:Hp} (s:Spl F a h):F.sub h:=
 ⟨fun k o e=>by rw [s.1,Hp.join_l (s.2.c k o e)]; exact e,fun k o e=>by rw [s.1,Hp.joinR_l (s.2.r k o e)]; exact e⟩
theorem Spl.of_sub {a h:Hp} (s:a.sub h):Spl (h.minus a) a h:=by
 refine ⟨Hp.ext (fun k=>?_) (fun k=>?_),fun k o e=>?_,fun k o e=>?_⟩
 ·cases e:a k with
  | none=>rw [Hp.join_l e,Hp.minus_n e]
  | some o=>rw [Hp.join_r e,s k o e]
 ·cases e:a.r k with
  | none=>rw [Hp.joinR_l e,Hp.minusR_n e]
  | some o=>rw [Hp.joinR_r e,s.r k o e]
 ·cases e2:a k with
  | none=>rfl
  | some x=>rw [Hp.minus_s e2] at e; cases e
 ·cases e2:a.r k with
  | none=>rfl
  | some x=>rw [Hp.minusR_s e2] at e; cases e
theorem Spl.of_sub' {F h:Hp} (s:F.sub h):Spl F (h.minus F) h:=by
 refine ⟨Hp.ext (fun k=>?_) (fun k=>?_),fun k o e=>Hp.minus_s e,fun k o e=>Hp.minusR_s e⟩
 ·cases e:F k with
  | none=>
   cases e2:h k with
   | none=>rw [Hp.join_l (by rw [Hp.minus_n e]; exact e2),e]
   | some o=>rw [Hp.join_r (o:=o) (by rw [Hp.minus_n e]; exact e2)]
  | some o=>rw [Hp.join_l (Hp.minus_s e),e,s k o e]
 ·cases e:F.r k with
  | none=>
   cases e2:h.r k with
   | none=>rw [Hp.joinR_l (by rw [Hp.minusR_n e]; exact e2),e]
   | some o=>rw [Hp.joinR_r (o:=o) (by rw [Hp.minusR_n e]; exact e2)]
  | some o=>rw [Hp.joinR_l (Hp.minusR_s e),e,s.r k o e]
theorem Spl.none_l {F a h:Hp} (s:Spl F a h) {k:Nat} (e:h k = none):F k = none:=s.sub_l.none e
theorem Spl.none_r {F a h:Hp} (s:Spl F a h) {k:Nat} (e:h k = none):a k = none:=s.sub_r.none e
theorem Spl.all (h:Hp):Spl Hp.nil h h:=by
 refine ⟨Hp.ext (fun k=>?_) (fun k=>?_),fun k o e=>(by cases e),fun k o e=>(by cases e)⟩
 ·cases e:h k with
  | none=>rw [Hp.join_l e]; rfl
  | some o=>rw [Hp.join_r e]
 ·cases e:h.r k with
  | none=>rw [Hp.joinR_l e]; rfl
  | some o=>rw [Hp.joinR_r e]
theorem Spl.nil_eq {a h:Hp} (s:Spl Hp.nil a h):h = a:=by
 rw [s.1]
 refine Hp.ext (fun k=>?_) (fun k=>?_)
 ·cases e:a k with
  | none=>rw [Hp.join_l e]; rfl
  | some o=>rw [Hp.join_r e]
 ·cases e:a.r k with
  | none=>rw [Hp.joinR_l e]; rfl
  | some o=>rw [Hp.joinR_r e]
def Yields (P:Program) {α σ:Type} (gb:Gh) (l:Nat) (enc:α→List AV) (R:σ→Hp→Prop) (Y:α→σ→(Bool→σ→Prop)→Prop):Prop:=
 ∀ x s F hr h K,R s hr→Spl F hr h→Y x s K→AYield P gb l (enc x) h fun v h'=>∃ b s' hr',v = .val (.bool b)∧R s' hr'∧Spl F hr' h'∧K b s'
theorem Own.yielded {hb h hr h' hr' F:Hp} {its:List Itm} (H:Own hb h its) (hs:Spl F hr hb) (hs':Spl (h.minus hr) hr' h'):Spl F hr' (F.join hr')∧Own (F.join hr') h' its:=by
 have hrh:hr.sub h:=hs.sub_r.trans H.sub
 have key:∀ b,hb b = none→h' b = (h.minus hr) b∨(h.minus hr) b = none:=fun b e=>by
  cases e2:(h.minus hr) b with
  | none=>exact .inr rfl
  | some o=>exact .inl (by rw [hs'.sub_l b o e2])
 have hap:Apart F hr':=by
  refine ⟨fun k o e=>?_,fun k o e=>?_⟩
  ·refine hs'.2.c k o ?_
   rw [Hp.minus_n (hs.2.c k o e)]
   exact (hs.sub_l.trans H.sub) k o e
  ·refine hs'.2.r k o ?_
   rw [Hp.minusR_n (hs.2.r k o e)]
   exact (hs.sub_l.trans H.sub).r k o e
 have hsp:Spl F hr' (F.join hr'):=⟨rfl,hap⟩
 refine ⟨hsp,⟨fun k o e=>?_,fun k o e=>?_⟩,?_⟩
 ·cases e2:hr' k with
  | none=>
   rw [Hp.join_l e2] at e
   refine hs'.sub_l k o ?_
   rw [Hp.minus_n (hs.2.c k o e)]
   exact (hs.sub_l.trans H.sub) k o e
  | some o'=>
   rw [Hp.join_r e2] at e; cases e
   exact hs'.sub_r k _ e2
 ·cases e2:hr'.r k with
  | none=>
   rw [Hp.joinR_l e2] at e
   refine hs'.sub_l.r k o ?_
   rw [Hp.minusR_n (hs.2.r k o e)]
   exact (hs.sub_l.trans H.sub).r k o e
  | some o'=>
   rw [Hp.joinR_r e2] at e; cases e
   exact hs'.sub_r.r k _ e2
 ·obtain ⟨_,f,a1,a2,a3⟩:=H
  refine ⟨f,fun j it hj=>?_,a2,a3⟩
  have:=a1 j it hj
  cases hf:f j with
  | none=>rw [hf] at this; exact this
  | some b=>
   rw [hf] at this
   obtain ⟨q1,q2,q3⟩:=this
   obtain ⟨tl,q4,q5⟩:=q2
   have hr0:hr b = none:=hs.none_r q3
   have hm:(h.minus hr) b = some ⟨it.sz,it.rows++tl,it.ty⟩:=by rw [Hp.minus_n hr0]; exact q4
   refine ⟨q1,⟨tl,hs'.sub_l b _ hm,q5⟩,?_⟩
   rw [Hp.join_l (hs'.2.c b _ hm)]
   exact hs.none_l q3
theorem yields_of {P:Program} {K:St→Prop} {d:Option Nat} {tm:List AV} {α σ:Type} {gb:Gh} {l:Nat} {enc:α→List AV} {R:σ→Hp→Prop} {Y:α→σ→(Bool→σ→Prop)→Prop} {F hr hb h:Hp} {its:List Itm} {s:σ} {K':Bool→σ→Prop}
  (hY:Yields P gb l enc R Y) (hR:R s hr) (hs:Spl F hr hb) (H:Own hb h its) (x:α) {args:List AV} (ha:args = enc x) (hm:Y x s K')
  (k:∀ b s' hr' hb' h',R s' hr'→Spl F hr' hb'→Own hb' h' its→K' b s'→K ⟨put tm d (.val (.bool b)),h'⟩):yields P K d tm h gb l args:=by
 subst ha
 refine (hY x s _ hr h K' hR (Spl.of_sub (hs.sub_r.trans H.sub)) hm).mono ?_
 rintro v h' ⟨b,s',hr',rfl,h1,h2,h3⟩
 obtain ⟨p1,p2⟩:=H.yielded hs h2
 exact k b s' hr' _ h' h1 p1 p2 h3
def Hp.addR (h:Hp) (rs:List (Nat×Obj)):Hp:=⟨h.c,fun k=>match rs.find? (fun p=>p.1 == k) with | some p=>some p.2 | none=>h.r k⟩
def Xf (h0:Hp) (rs:List (Nat×Obj)):Prop:=(∀ p∈rs,h0.r p.1 = none)∧(rs.map (·.1)).Nodup
def Ownr (h0 h:Hp) (its:List Itm) (rs:List (Nat×Obj)):Prop:=Xf h0 rs∧Own (h0.addR rs) h its
theorem Own.r {h0 h:Hp} {its:List Itm} (H:Own h0 h its):Ownr h0 h its []:=⟨⟨fun _ h=>(by cases h),List.nodup_nil⟩,H⟩
theorem Ownr.own {h0 h:Hp} {its:List Itm} (H:Ownr h0 h its []):Own h0 h its:=H.2
theorem Xna {h:Hp} {rs:List (Nat×Obj)} {k:Nat} {o:Obj} (e:(h.addR rs).r k = some o):(∃ p∈rs,p.1 = k∧p.2 = o∧rs.find? (fun p=>p.1 == k) = some p)∨(rs.find? (fun p=>p.1 == k) = none∧h.r k = some o):=by
 simp only [Hp.addR] at e
 cases e2:rs.find? (fun p=>p.1 == k) with
 | none=>rw [e2] at e; exact .inr ⟨rfl,e⟩
 | some p=>
  rw [e2] at e
  simp only [Option.some.injEq] at e
  have h1:=List.mem_of_find?_eq_some e2
  have h2:=List.find?_some e2
  exact .inl ⟨p,h1,by simpa using h2,e,rfl⟩
theorem Xtb {h:Hp} {rs:List (Nat×Obj)} (hd:∀ p∈rs,h.r p.1 = none) {k:Nat} {o:Obj} (e:h.r k = some o):(h.addR rs).r k = some o:=by
 simp only [Hp.addR]
 cases e2:rs.find? (fun p=>p.1 == k) with
 | none=>exact e
 | some p=>
  have h1:=List.mem_of_find?_eq_some e2
  have h2:=List.find?_some e2
  have:p.1 = k:=by simpa using h2
  have:=hd p h1
  simp_all
theorem Ownr.sub {h0 h:Hp} {its:List Itm} {rs:List (Nat×Obj)} (H:Ownr h0 h its rs):h0.sub h:=
 ⟨fun k o e=>H.2.sub k o e,fun k o e=>H.2.sub.r k o (Xtb H.1.1 e)⟩
theorem Ownr.larger {h0 h F h2:Hp} {its:List Itm} {rs:List (Nat×Obj)} (H:Ownr h0 h its rs) (s:Spl F h h2):Ownr (F.join h0) h2 its rs:=by
 have hF0:Apart F h0:=⟨fun k o e=>H.sub.none (s.2.c k o e),fun k o e=>by
  cases e2:h0.r k with
  | none=>rfl
  | some y=>have:=H.sub.r k y e2; rw [s.2.r k o e] at this; cases this⟩
 have hrs:∀ p∈rs,(F.join h0).r p.1 = none:=fun p hp=>by
  rw [Hp.joinR_l (H.1.1 p hp)]
  obtain ⟨q,hq,e1,e2⟩:∃ q∈rs,q.1 = p.1∧rs.find? (fun r=>r.1 == p.1) = some q:=by
   cases e2:rs.find? (fun r=>r.1 == p.1) with
   | none=>have:=List.find?_eq_none.1 e2 p hp; simp at this
   | some q=>exact ⟨q,List.mem_of_find?_eq_some e2,by simpa using List.find?_some e2,rfl⟩
  refine s.2.r' (o:=q.2) (H.2.sub.r p.1 q.2 ?_)
  simp only [Hp.addR,e2]
 refine ⟨⟨hrs,H.1.2⟩,⟨fun k o e=>?_,fun k o e=>?_⟩,?_⟩
 ·have e':(F.join h0) k = some o:=e
  cases e2:h0 k with
  | none=>rw [Hp.join_l e2] at e'; exact s.sub_l k o e'
  | some o'=>rw [Hp.join_r e2] at e'; cases e'; exact s.sub_r k _ (H.sub k _ e2)
 ·rcases Xna e with ⟨p,hp,rfl,rfl,e3⟩ | ⟨e3,e4⟩
  ·refine s.sub_r.r p.1 p.2 (H.2.sub.r p.1 p.2 ?_)
   simp only [Hp.addR,e3]
  ·cases e2:h0.r k with
   | none=>rw [Hp.joinR_l e2] at e4; exact s.sub_l.r k o e4
   | some o'=>rw [Hp.joinR_r e2] at e4; cases e4; exact s.sub_r.r k _ (H.sub.r k _ e2)
 ·obtain ⟨_,_,f,a1,a2,a3⟩:=H
  refine ⟨f,fun j it hj=>?_,a2,a3⟩
  have:=a1 j it hj
  cases hf:f j with
  | none=>rw [hf] at this; exact this
  | some b=>
   rw [hf] at this
   obtain ⟨q1,⟨tl,q4,q5⟩,q3⟩:=this
   refine ⟨q1,⟨tl,s.sub_r b _ q4,q5⟩,?_⟩
   have q3':h0 b = none:=q3
   show (F.join h0) b = none
   rw [Hp.join_l q3']; exact s.2.c' q4
theorem Ownr.smaller {h0 F h2:Hp} {its:List Itm} {rs:List (Nat×Obj)} (H:Ownr (F.join h0) h2 its rs) (hF:Apart F h0):Ownr h0 (h2.minus F) its rs∧Spl F (h2.minus F) h2:=by
 have hl:F.sub (F.join h0):=(Spl.sub_l ⟨rfl,hF⟩)
 have hr:h0.sub (F.join h0):=(Spl.sub_r ⟨rfl,hF⟩)
 have hFs:F.sub h2:=hl.trans H.sub
 have hrs:∀ p∈rs,F.r p.1 = none∧h0.r p.1 = none:=fun p hp=>by
  have:=H.1.1 p hp
  constructor
  ·cases e:F.r p.1 with
   | none=>rfl
   | some o=>rw [hl.r _ o e] at this; cases this
  ·cases e:h0.r p.1 with
   | none=>rfl
   | some o=>rw [hr.r _ o e] at this; cases this
 refine ⟨⟨⟨fun p hp=>(hrs p hp).2,H.1.2⟩,⟨fun k o e=>?_,fun k o e=>?_⟩,?_⟩,Spl.of_sub' hFs⟩
 ·have e':h0 k = some o:=e
  rw [Hp.minus_n (hF.c' e')]
  exact H.sub k o (hr k o e')
 ·rcases Xna e with ⟨p,hp,rfl,rfl,e3⟩ | ⟨e3,e4⟩
  ·rw [Hp.minusR_n (hrs p hp).1]
   refine H.2.sub.r p.1 p.2 ?_
   simp only [Hp.addR,e3]
  ·rw [Hp.minusR_n (hF.r' e4)]
   exact H.sub.r k o (hr.r k o e4)
 ·obtain ⟨_,_,f,a1,a2,a3⟩:=H
  refine ⟨f,fun j it hj=>?_,a2,a3⟩
  have:=a1 j it hj
  cases hf:f j with
  | none=>rw [hf] at this; exact this
  | some b=>
   rw [hf] at this
   obtain ⟨q1,⟨tl,q4,q5⟩,q3⟩:=this
   have q3':(F.join h0) b = none:=q3
   have e1:F b = none:=hl.none q3'
   refine ⟨q1,⟨tl,by rw [Hp.minus_n e1]; exact q4,q5⟩,hr.none q3'⟩
theorem Ownr.rec {h0 h:Hp} {its:List Itm} {rs:List (Nat×Obj)} (H:Ownr h0 h its rs) {l:Nat} (hl:h.r l = none) (o:Obj):Ownr (h0.updR l o) (h.updR l o) its rs:=by
 have hne:∀ p∈rs,p.1≠l:=fun p hp e=>by
  obtain ⟨q,e2⟩:∃ q,rs.find? (fun r=>r.1 == l) = some q:=by
   cases e2:rs.find? (fun r=>r.1 == l) with
   | none=>have:=List.find?_eq_none.1 e2 p hp; simp [e] at this
   | some q=>exact ⟨q,rfl⟩
  have:=H.2.sub.r l q.2 (by simp only [Hp.addR,e2])
  rw [hl] at this; cases this
 refine ⟨⟨fun p hp=>by rw [Hp.updR_ne _ _ (hne p hp)]; exact H.1.1 p hp,H.1.2⟩,⟨H.2.sub.c,fun k o' e=>?_⟩,H.2.2⟩
 rcases Xna e with ⟨p,hp,rfl,rfl,e3⟩ | ⟨e3,e4⟩
 ·rw [Hp.updR_ne _ _ (hne p hp)]
  exact H.2.sub.r _ _ (by simp only [Hp.addR,e3])
 ·by_cases ek:k = l
  ·subst ek
   rw [Hp.updR_same] at e4 ⊢; exact e4
  ·rw [Hp.updR_ne _ _ ek] at e4 ⊢
   exact H.sub.r k o' e4
theorem Ownr.unrec {h0 h:Hp} {its:List Itm} {rs:List (Nat×Obj)} {l:Nat} {o:Obj} (H:Ownr (h0.updR l o) h its rs) (hl:h0.r l = none):Ownr h0 (h.delR l) its rs∧h.r l = some o:=by
 have hne:∀ p∈rs,p.1≠l:=fun p hp e=>by
  have:=H.1.1 p hp
  rw [e,Hp.updR_same] at this; cases this
 have hlo:h.r l = some o:=H.sub.r l o (Hp.updR_same _ _ _)
 refine ⟨⟨⟨fun p hp=>by have:=H.1.1 p hp; rwa [Hp.updR_ne _ _ (hne p hp)] at this,H.1.2⟩,⟨H.2.sub.c,fun k o' e=>?_⟩,H.2.2⟩,hlo⟩
 have hd:∀ k,k≠l→(h.delR l).r k = h.r k:=fun k e=>by simp [Hp.delR,e]
 rcases Xna e with ⟨p,hp,rfl,rfl,e3⟩ | ⟨e3,e4⟩
 ·rw [hd _ (hne p hp)]
  exact H.2.sub.r _ _ (by simp only [Hp.addR,e3])
 ·have ek:k≠l:=by rintro rfl; rw [hl] at e4; cases e4
  rw [hd _ ek]
  exact H.sub.r k o' (by rw [Hp.updR_ne _ _ ek]; exact e4)
theorem Hp.updR_delR {h:Hp} {l:Nat} {o o':Obj} (e:h.r l = some o):(h.delR l).updR l o' = h.updR l o':=
 Hp.ext (fun _=>rfl) (fun k=>by simp only [Hp.updR,Hp.delR]; split <;> simp_all)
theorem Hp.delR_updR {h:Hp} {l:Nat} (o:Obj) (e:h.r l = none):(h.updR l o).delR l = h:=
 Hp.ext (fun _=>rfl) (fun k=>by
  simp only [Hp.updR,Hp.delR]; split
  ·rename_i q; subst q; exact e.symm
  ·rfl)
def penOf (exs:List Code):Nat→Option Code
 | 0=>none
 | k+1=>exs[k]?
def endsAs (exs:List Code):AX→Nat→Prop
 | .norm,0=>True
 | .ret,k+1=>exs[k]? = some .ret
 | .exit i,k+1=>exs[k]? = some (.exit i)
 | _,_=>False
def rngQ {σ:Type} (exs:List Code) (I:σ→List Itm→List (Nat×Obj)→Prop) (hb:Hp) (K:Bool→σ×Nat→Prop):AX→St→Prop:=fun e s=>∃ k s' its rs,I s' its rs∧Ownr hb s.h its rs∧K (k == 0) (s',k)∧endsAs exs e k
theorem rngQ_of {σ:Type} {exs:List Code} {I:σ→List Itm→List (Nat×Obj)→Prop} {hb:Hp} {K:Bool→σ×Nat→Prop} {e:AX} {s:St} (k:Nat) (s':σ) {its:List Itm} {rs:List (Nat×Obj)} (hI:I s' its rs) (H:Ownr hb s.h its rs) (hK:K (k == 0) (s',k)) (he:endsAs exs e k):rngQ exs I hb K e s:=
 ⟨k,s',its,rs,hI,H,hK,he⟩
theorem penOf_nil {k:Nat}:penOf [] k = none:=by cases k <;> rfl
theorem retQ_it {T:Tab} {rs:List ResultVar} {Q:AE→Hp→Prop} {s:St} {e:AX} (he:e = .ret∨e = .norm) {x:AV} {hb:Hp} (hr:Wm T rs s.tm s.h = some x) (hs:hb.sub s.h) (hq:Q (.ret x) hb):retQ T rs Q e s:=by
 rcases he with rfl | rfl <;> exact ⟨x,x,hb,hr,Zf.forget hs,hq⟩
theorem awp_range {P:Program} {T:Tab} {f:Operand} {ps:List Nat} {as_ bd:AC} {Q:AX→St→Prop} {tm:List AV} {h hb:Hp} {n:Nat} {caps:List AV} (hf:ev tm f = .fn (.func n) [] caps)
  {α σ:Type} (exs:List Code) {enc:α→List AV} {Y:α→σ×Nat→(Bool→σ×Nat→Prop)→Prop} (I:σ→List Itm→List (Nat×Obj)→Prop) {s0:σ} {QW:σ×Nat→Prop}
  (hit:∀ {gb:Gh} {l:Nat} {R:σ×Nat→Hp→Prop} {F hr h0:Hp},Yields P gb l enc R Y→R (s0,0) hr→Spl F hr h0→Zo P n (.yld l gb :: caps) h0 fun e h'=>(∃ x,e = .ret x)∧∃ s' hr',R s' hr'∧Spl F hr' h'∧QW s')
  (its0:List Itm) (rs0:List (Nat×Obj)) (hI0:I s0 its0 rs0) (H:Ownr hb h its0 rs0) (hlen:∀ x,(enc x).length = ps.length)
  (hY0:∀ x s k K,k≠0→¬ Y x (s,k) K)
  (hbody:∀ x s its rs K hb h,Y x (s,0) K→I s its rs→Ownr hb h its rs→awp P T as_ (Y3a (fun st=>∃ its2,Ownr hb st.h its2 rs∧∀ hb' h',Ownr hb' h' its2 rs→awp P T bd (rngQ exs I hb' K) ⟨st.tm,h'⟩) (fun _ _=>False)) ⟨setAll tm ps (enc x),h⟩)
  (hrest:∀ s k its rs h,QW (s,k)→I s its rs→Ownr hb h its rs→apend Q ⟨tm,h⟩ (penOf exs k)):awp P T (.range f ps as_ bd) Q ⟨tm,h⟩:=by
 simp only [awp,hf]
 intro l gb o ho hl hyl
 let st:Nat→LoopState:=fun k=>if k = 0 then .ready else .done
 let R:σ×Nat→Hp→Prop:=fun s hr=>∃ hc its rs,hr = hc.updR l (o (st s.2) (penOf exs s.2))∧hc.r l = none∧I s.1 its rs∧Ownr hb hc its rs
 have hbl:hb.r l = none:=by
  cases e:hb.r l with
  | none=>rfl
  | some o'=>have:=H.sub.r l o' e; rw [hl] at this; cases this
 have hYs:Yields P gb l enc R Y:=by
  rintro x ⟨s,k⟩ F hr h2 K ⟨hc,its,rs,rfl,hcl,hI,hO⟩ hs hy
  by_cases hk:k = 0
  rotate_left
  ·exact absurd hy (hY0 x s k K hk)
  subst hk
  have hrl:h2.r l = some (o .ready none):=hs.sub_r.r l _ (by rw [Hp.updR_same]; rfl)
  have hFl:F.r l = none:=hs.2.r' (o:=o .ready none) (by rw [Hp.updR_same]; rfl)
  have hsp:Spl F (hc.updR l (o .ready none)) h2:=hs
  have base:∀ o',F.join (hb.updR l o') = (F.join hb).updR l o':=fun o'=>Hp.ext (fun _=>rfl) (fun k=>by
   by_cases e:k = l
   ·subst e; rw [Hp.updR_same,Hp.joinR_r (Hp.updR_same _ _ _)]
   ·rw [Hp.updR_ne _ _ e]
    have q:(hb.updR l o').r k = hb.r k:=Hp.updR_ne _ _ e
    simp only [Hp.join,q])
  have hFb:Apart F hb:=⟨fun k x e=>hO.sub.none (hs.2.c k x e),fun k x e=>by
   cases e2:hb.r k with
   | none=>rfl
   | some o'=>
    have e1:k≠l:=by rintro rfl; rw [hFl] at e; cases e
    have h3:=hO.sub.r k o' e2
    have h4:=hs.2.r k x e
    rw [Hp.updR_ne _ _ e1] at h4; rw [h3] at h4; cases h4⟩
  have hjl:(F.join hb).r l = none:=by rw [Hp.joinR_l hbl]; exact hFl
  have hO2:Ownr ((F.join hb).updR l (o .ready none)) h2 its rs:=by
   rw [← base]; exact (hO.rec hcl (o .ready none)).larger hsp
  have hbase:∀ (k:Nat) (s':σ) (its':List Itm) (rs':List (Nat×Obj)) (h3:Hp),I s' its' rs'→Ownr ((F.join hb).updR l (o .busy none)) h3 its' rs'→h3.r l = some (o .busy none) ∧
    ∃ hr',R (s',k) hr'∧Spl F hr' (h3.updR l (o (st k) (penOf exs k))):=by
   intro k s' its' rs' h3 hI' hO'
   obtain ⟨u1,u2⟩:=hO'.unrec hjl
   obtain ⟨v1,v2⟩:=u1.smaller hFb
   have e1:((h3.delR l).minus F).r l = none:=by rw [Hp.minusR_n hFl]; simp [Hp.delR]
   refine ⟨u2,_,⟨(h3.delR l).minus F,its',rs',rfl,e1,hI',v1⟩,?_,⟨v2.2.c,fun k' x e=>?_⟩⟩
   ·refine Hp.ext (fun k'=>?_) (fun k'=>?_)
    ·have:=congrArg (fun h:Hp=>h k') v2.1
     exact this
    ·by_cases e:k' = l
     ·subst e; rw [Hp.updR_same,Hp.joinR_r (Hp.updR_same _ _ _)]
     ·rw [Hp.updR_ne _ _ e]
      have q:∀ o'',(((h3.delR l).minus F).updR l o'').r k' = ((h3.delR l).minus F).r k':=fun o''=>Hp.updR_ne _ _ e
      have:=congrArg (fun h:Hp=>h.r k') v2.1
      have e3:(h3.delR l).r k' = h3.r k':=by simp [Hp.delR,e]
      simp only [Hp.join,q]
      rw [← e3]; exact this
   ·have e2:k'≠l:=by rintro rfl; rw [hFl] at e; cases e
    rw [Hp.updR_ne _ _ e2]; exact v2.2.r k' x e
  refine (hyl (enc x) h2 (fun pe h'=>∃ k s' hr',pe = penOf exs k∧pe.isNone = (k == 0)∧R (s',k) hr'∧Spl F hr' h'∧K (k == 0) (s',k)) (hlen x) hrl ?_).mono ?_
  ·refine Wl as_ ?_ _ (hbody x s its rs K _ h2 hy hI hO2)
   intro e st1 hq
   cases e with
   | norm=>
    obtain ⟨its2,q1,q2⟩:=hq
    obtain ⟨u1,u2⟩:=q1.unrec hjl
    have hO3:=u1.rec (l:=l) (by simp [Hp.delR]) (o .busy none)
    rw [Hp.updR_delR u2] at hO3
    refine ⟨u2,Wl bd ?_ _ (q2 _ _ hO3)⟩
    rintro e st2 ⟨k,s',its',rs',a1,a2,a3,a4⟩
    obtain ⟨b1,hr',b2,b3⟩:=hbase k s' its' rs' st2.h a1 a2
    cases e with
    | norm=>
     cases k with
     | succ k=>exact a4.elim
     | zero=>exact ⟨b1,0,s',hr',rfl,rfl,b2,b3,a3⟩
    | ret=>
     cases k with
     | zero=>exact a4.elim
     | succ k=>
      have e1:penOf exs (k+1) = some .ret:=a4
      have e2:st (k+1) = .done:=rfl
      rw [e1,e2] at b3
      exact ⟨b1,k+1,s',hr',e1.symm,rfl,b2,b3,a3⟩
    | exit i=>
     cases k with
     | zero=>exact a4.elim
     | succ k=>
      have e1:penOf exs (k+1) = some (.exit i):=a4
      have e2:st (k+1) = .done:=rfl
      rw [e1,e2] at b3
      exact ⟨b1,k+1,s',hr',e1.symm,rfl,b2,b3,a3⟩
    | pan x=>cases k <;> exact a4.elim
   | exit n=>exact hq.elim
   | ret=>exact hq.elim
   | pan x=>exact hq.elim
  ·rintro v h' ⟨pe,rfl,k,s',hr',rfl,h0,h1,h2,h3⟩
   exact ⟨(k == 0),(s',k),hr',by rw [h0]; rfl,h1,h2,h3⟩
 refine (hit (R:=R) hYs ⟨h,its0,rs0,rfl,hl,hI0,H⟩ (Spl.all _)).mono ?_
 rintro e h' ⟨hx,⟨s',k⟩,hr',⟨hc,its,rs,rfl,hcl,hI,hO⟩,hs,hq⟩
 obtain rfl:=hs.nil_eq
 refine ⟨hx,penOf exs k,st k,Hp.updR_same _ _ _,?_,?_⟩
 ·show (if k = 0 then LoopState.ready else LoopState.done)≠.busy
  split <;> simp
 ·rw [Hp.delR_updR _ hcl]
  exact hrest s' k its rs hc hq hI hO
end Go.Proofs.YtpkhmfedaaoalaaGreatDoor.AM
namespace Go.Proofs.YtpkhmfedaaoalaaGreatDoor.AM
open Go
def aget {α β:Type} [DecidableEq α]:List (α×β)→α→Option β
 | [],_=>none
 | p :: m,x=>if x = p.1 then some p.2 else aget m x
def aset {α β:Type} [DecidableEq α]:List (α×β)→α→β→List (α×β)
 | [],x,v=>[(x,v)]
 | p :: m,x,v=>if x = p.1 then (x,v) :: m else p :: aset m x v
structure KeyV (kk:TI) {α:Type} [DecidableEq α] (kv:α→Value):Prop where
 key:∀ x,keyT kk (kv x) = true
 same:∀ x y,W4a kk (kv x) (kv y) = some (decide (x = y))
theorem keyInt (k:IntKind) {m1 m2:Nat} {z2:List Value} {q2:Option (List (Nat×TK))}:KeyV ⟨m1,m2,z2,.int k,q2⟩ (fun n:Int=>.int k n):=⟨fun x=>by simp [keyT,keyK],fun x y=>by simp [W4a,sameK]; rw [Bool.eq_iff_iff]; simp⟩
theorem arrLit {α:Type} {f:α→AV} {x:List α} {i:Nat} {v:α} (h:x[i]? = some v):(x.map f)[i * 1]? = some (f v):=by rw [Nat.mul_one,List.getElem?_map,h]; rfl
theorem one_closedSlice {P:Program} {T:Tab} {K:St→Prop} {X:AV→Hp→Prop} {d:Option Nat} {tm:List AV} {h:Hp} {pu:Bool} {t len n1 n2 e:Nat} {zz:List Value} {q:Option (List (Nat×TK))} {ei:TI} {ps:Array (Nat×Operand)} {rows:List (List AV)} (hT:T t = some ⟨n1,n2,zz,.sl e,q⟩) (he:T e = some ei) (h0:0 < ei.size) (hl:len * ei.size≤16777216)
  (ha:Jqa ei.size (List.replicate len (ei.zero.map .val)) (ps.toList.map fun p=>(p.1,ev tm p.2)) = some rows):one P T pu (.buildSlice t len ps) d K X ⟨tm,h⟩ = news K d tm h (fun b=>.osl b ei.size 0 len) ⟨ei.size,rows,some (e,0)⟩:=by
 rw [Jxa,hT,litK_some,he,litT_some,ha]
 simp only [h0,hl,true_and,onSome_some]
@[push_cast] theorem abin_optr_eql (e b sz r c:Nat):abin .eql (.ptr e) (.optr b sz r c) (.val (.pointer none)) = some (Zk false):=rfl
@[push_cast] theorem abin_optr_neq (e b sz r c:Nat):abin .neq (.ptr e) (.optr b sz r c) (.val (.pointer none)) = some (Zk true):=rfl
@[push_cast] theorem abin_iptr_eql (e c:Nat) (r:List AV):abin .eql (.ptr e) (.iptr r c) (.val (.pointer none)) = some (Zk false):=rfl
@[push_cast] theorem abin_iptr_neq (e c:Nat) (r:List AV):abin .neq (.ptr e) (.iptr r c) (.val (.pointer none)) = some (Zk true):=rfl
@[push_cast] theorem abin_vptr_eql (e:Nat) (a:Addr):abin .eql (.ptr e) (.val (.pointer (some a))) (.val (.pointer none)) = some (Zk false):=rfl
@[push_cast] theorem abin_vptr_neq (e:Nat) (a:Addr):abin .neq (.ptr e) (.val (.pointer (some a))) (.val (.pointer none)) = some (Zk true):=rfl
@[push_cast] theorem abin_nilp_eql (e:Nat):abin .eql (.ptr e) (.val (.pointer none)) (.val (.pointer none)) = some (Zk true):=rfl
@[push_cast] theorem abin_nilp_neq (e:Nat):abin .neq (.ptr e) (.val (.pointer none)) (.val (.pointer none)) = some (Zk false):=rfl
theorem sameBits_int (n:Nat) (j:IntKind) (a b:Int):Instr.sameBits n (.int j a) (.int j b) = (a == b):=by cases n <;> simp [Instr.sameBits]
theorem sameBits_str (n:Nat) (a b:ByteArray):Instr.sameBits n (.string a) (.string b) = (a == b):=by cases n <;> simp [Instr.sameBits]
theorem sameBits_bool (n:Nat) (a b:Bool):Instr.sameBits n (.bool a) (.bool b) = (a == b):=by cases n <;> simp [Instr.sameBits]
theorem one_int (j:IntKind) (a:Int):Value.oneCell' (.int j a) = true:=rfl
theorem one_str (a:ByteArray):Value.oneCell' (.string a) = true:=rfl
theorem one_bool (a:Bool):Value.oneCell' (.bool a) = true:=rfl
section
variable {kk:TI} {α β:Type} [DecidableEq α] {kv:α→Value} (hk:KeyV kk kv) (vv:β→Value)
include hk
theorem Zva:∀ (m:List (α×β)) (x:α),lookNow kk (m.map fun p=>(kv p.1,vv p.2)) (kv x) = some ((aget m x).map vv)
 | [],x=>rfl
 | p :: m,x=>by
  simp only [List.map_cons,lookNow,hk.same,aget]
  by_cases e:x = p.1
  ·simp [e]
  ·simp [e,Zva m x]
theorem Vka:∀ (m:List (α×β)) (x:α) (v:β),updNow kk (m.map fun p=>(kv p.1,vv p.2)) (kv x) (vv v) = some ((aset m x v).map fun p=>(kv p.1,vv p.2))
 | [],x,v=>rfl
 | p :: m,x,v=>by
  simp only [List.map_cons,updNow,hk.same,aset]
  by_cases e:x = p.1
  ·simp [e]
  ·simp [e,Vka m x v]
end
section
variable {P:Program} {T:Tab} {K:St→Prop} {X:AV→Hp→Prop} {d:Option Nat} {tm:List AV} {h:Hp} {pu:Bool}
def mkMap (o:Option TI) (K:St→Prop) (d:Option Nat) (tm:List AV) (h:Hp):Prop:=match o with
 | some ti=>match ti.kind with
  | .map _ _=>∀ b,h.r b = none→K ⟨put tm d (.val (.map (some b))),h.updR b (Yo [])⟩
  | _=>False
 | none=>False
def lookK (T:Tab) (K:St→Prop) (d:Option Nat) (tm:List AV) (h:Hp) (t:Nat) (x i:AV) (ok:Bool):Prop:=aLook T t x i ok h fun y h'=>K ⟨put tm d y,h'⟩
def updK (T:Tab) (K:St→Prop) (d:Option Nat) (tm:List AV) (h:Hp) (t:Nat) (x i v:AV):Prop:=aUpd T t x i v h fun y h'=>K ⟨put tm d y,h'⟩
def rangeK (T:Tab) (K:St→Prop) (d:Option Nat) (tm:List AV) (h:Hp) (t:Nat) (x:AV):Prop:=X3b T t x h fun y h'=>K ⟨put tm d y,h'⟩
def nextK (K:St→Prop) (d:Option Nat) (tm:List AV) (h:Hp) (x:AV):Prop:=aNext x h fun y h'=>K ⟨put tm d y,h'⟩
def nextSK (K:St→Prop) (d:Option Nat) (tm:List AV) (h:Hp) (x:AV):Prop:=aNextS x h fun y h'=>K ⟨put tm d y,h'⟩
def entryK (K:St→Prop) (d:Option Nat) (tm:List AV) (h:Hp) (x:AV):Prop:=aEntry x h fun y h'=>K ⟨put tm d y,h'⟩
theorem one_makeMap (t:Nat):one P T pu (.makeMap t none) d K X ⟨tm,h⟩ = mkMap (T t) K d tm h:=rfl
theorem one_lookup (t:Nat) (x i:Operand) (ok:Bool):one P T pu (.lookup t x i ok) d K X ⟨tm,h⟩ = lookK T K d tm h t (ev tm x) (ev tm i) ok:=rfl
theorem one_mapUpdate (t:Nat) (x i v:Operand):one P T pu (.mapUpdate t x i v) d K X ⟨tm,h⟩ = updK T K d tm h t (ev tm x) (ev tm i) (ev tm v):=rfl
theorem one_range (t:Nat) (x:Operand):one P T pu (.range t x) d K X ⟨tm,h⟩ = rangeK T K d tm h t (ev tm x):=rfl
theorem one_next (x:Operand):one P T pu (.next x false) d K X ⟨tm,h⟩ = nextK K d tm h (ev tm x):=rfl
theorem one_nextS (x:Operand):one P T pu (.next x true) d K X ⟨tm,h⟩ = nextSK K d tm h (ev tm x):=rfl
theorem one_entry (x:Operand):one P T pu (.entry x) d K X ⟨tm,h⟩ = entryK K d tm h (ev tm x):=rfl
attribute [push_cast] one_makeMap one_lookup one_mapUpdate one_range one_next one_nextS one_entry
theorem addR_at {B:Hp} {rs:List (Nat×Obj)} (hD:Xf B rs) (j:Nat) {b:Nat} {o:Obj} (hj:rs[j]? = some (b,o)):(B.addR rs).r b = some o:=by
 have hm:=List.mem_of_getElem? hj
 have hf:rs.find? (fun p=>p.1 == b) = some (b,o):=by
  cases e:rs.find? (fun p=>p.1 == b) with
  | none=>have:=List.find?_eq_none.1 e _ hm; simp at this
  | some q=>
   have h1:=List.mem_of_find?_eq_some e
   have h2:q.1 = b:=by simpa using List.find?_some e
   obtain ⟨i,hi⟩:=List.getElem?_of_mem h1
   have e1:=(List.getElem?_eq_some_iff.1 hi)
   have e2:=(List.getElem?_eq_some_iff.1 hj)
   have:i = j:=by
    refine Vsa hD.2 i j (by simpa using e1.1) (by simpa using e2.1) ?_
    simp [e1.2,e2.2,h2]
   subst this
   rw [hi] at hj; exact hj
 simp only [Hp.addR,hf]
variable {B:Hp} {rs:List (Nat×Obj)} {its:List Itm}
theorem Own.rawAt (H:Own (B.addR rs) h its) (hD:Xf B rs) (j:Nat) {b:Nat} {o:Obj} (hj:rs[j]? = some (b,o)):h.r b = some o:=H.sub.r b o (addR_at hD j hj)
theorem Own.addRaw (H:Own (B.addR rs) h its) (hD:Xf B rs) {b:Nat} (hb:h.r b = none) (o:Obj):Xf B (rs++[(b,o)])∧Own (B.addR (rs++[(b,o)])) (h.updR b o) its:=by
 have hn:∀ p∈rs,p.1≠b:=fun p hp e=>by
  obtain ⟨j,hj⟩:=List.getElem?_of_mem hp
  have:=H.rawAt hD j (b:=p.1) (o:=p.2) hj
  rw [e,hb] at this; cases this
 have hB:B.r b = none:=by
  cases e:B.r b with
  | none=>rfl
  | some o'=>have:=H.sub.r b o' (Xtb hD.1 e); rw [hb] at this; cases this
 refine ⟨⟨fun p hp=>?_,?_⟩,⟨H.sub.c,fun k o' e=>?_⟩,H.2⟩
 ·rcases List.mem_append.1 hp with hp | hp
  ·exact hD.1 p hp
  ·simp at hp; rw [hp]; exact hB
 ·rw [List.map_append,List.nodup_append]
  refine ⟨hD.2,by simp,fun x hx y hy=>?_⟩
  obtain ⟨p,hp,rfl⟩:=List.mem_map.1 hx
  simp at hy; rw [hy]; exact hn p hp
 ·rcases Xna e with ⟨p,hp,rfl,rfl,_⟩ | ⟨e3,e4⟩
  ·rcases List.mem_append.1 hp with hp | hp
   ·rw [Hp.updR_ne _ _ (hn p hp)]
    obtain ⟨j,hj⟩:=List.getElem?_of_mem hp
    exact H.rawAt hD j hj
   ·simp at hp; rw [hp,Hp.updR_same]
  ·have hk:k≠b:=by rintro rfl; rw [hB] at e4; cases e4
   rw [Hp.updR_ne _ _ hk]
   exact H.sub.r k o' (Xtb hD.1 e4)
theorem Own.setRaw (H:Own (B.addR rs) h its) (hD:Xf B rs) (j:Nat) {b:Nat} {o:Obj} (hj:rs[j]? = some (b,o)) (o':Obj):Xf B (rs.set j (b,o'))∧Own (B.addR (rs.set j (b,o'))) (h.updR b o') its:=by
 have hmap:(rs.set j (b,o')).map (·.1) = rs.map (·.1):=by
  apply List.ext_getElem?
  intro i
  simp only [List.getElem?_map,List.getElem?_set]
  split
  ·rename_i e; subst e
   rw [hj]
   have:=(List.getElem?_eq_some_iff.1 hj).1
   simp [this]
  ·rfl
 have hD':Xf B (rs.set j (b,o')):=by
  refine ⟨fun p hp=>?_,by rw [hmap]; exact hD.2⟩
  have:p.1∈(rs.set j (b,o')).map (·.1):=List.mem_map_of_mem hp
  rw [hmap] at this
  obtain ⟨q,hq,e⟩:=List.mem_map.1 this
  rw [← e]; exact hD.1 q hq
 have hjl:=(List.getElem?_eq_some_iff.1 hj).1
 refine ⟨hD',⟨H.sub.c,fun k x e=>?_⟩,H.2⟩
 rcases Xna e with ⟨p,hp,rfl,rfl,_⟩ | ⟨e3,e4⟩
 ·obtain ⟨i,hi⟩:=List.getElem?_of_mem hp
  rw [List.getElem?_set] at hi
  split at hi
  ·cases hi
   exact Hp.updR_same _ _ _
  ·rename_i hij
   have hne:p.1≠b:=fun e=>by
    have e1:=(List.getElem?_eq_some_iff.1 hi)
    have e2:=(List.getElem?_eq_some_iff.1 hj)
    exact hij (Vsa hD.2 j i (by simpa using e2.1) (by simpa using e1.1) (by simp [e1.2,e2.2,e]))
   rw [Hp.updR_ne _ _ hne]
   exact H.rawAt hD i hi
 ·have hk:k≠b:=by
   rintro rfl
   have:=hD.1 (k,o) (List.mem_of_getElem? hj)
   rw [this] at e4; cases e4
  rw [Hp.updR_ne _ _ hk]
  exact H.sub.r k x (Xtb hD.1 e4)
theorem mk_of {n1 n2 a e:Nat} {zz:List Value} {q:Option (List (Nat×TK))} (H:Own (B.addR rs) h its) (hD:Xf B rs)
  (k:∀ b h',Xf B (rs++[(b,Yo [])])→Own (B.addR (rs++[(b,Yo [])])) h' its→K ⟨put tm d (.val (.map (some b))),h'⟩):mkMap (some ⟨n1,n2,zz,.map a e,q⟩) K d tm h:=by
 intro b hb
 obtain ⟨h1,h2⟩:=H.addRaw hD hb (Yo [])
 exact k b _ h1 h2
theorem mk_of0 {n1 n2 a e:Nat} {zz:List Value} {q:Option (List (Nat×TK))} (H:Own B h its)
  (k:∀ b h',Xf B [(b,Yo [])]→Own (B.addR [(b,Yo [])]) h' its→K ⟨put tm d (.val (.map (some b))),h'⟩):mkMap (some ⟨n1,n2,zz,.map a e,q⟩) K d tm h:=
 mk_of (rs:=[]) (B:=B) H ⟨fun _ h=>(by cases h),List.nodup_nil⟩ k
variable {α β:Type} [DecidableEq α] {kk:TK} {kv:α→Value} {vv:β→Value}
theorem look_of {t kt et n1 n2 m1 m2:Nat} {zz z2:List Value} {q q2:Option (List (Nat×TK))} {ei:TI} (hk:KeyV ⟨m1,m2,z2,kk,q2⟩ kv) (av:β→AV) (hav:∀ v,Y3 (vv v) = av v) (z:β) (hz:Y3 (Xza ei) = av z)
  (ht:T t = some ⟨n1,n2,zz,.map kt et,q⟩) (hkt:T kt = some ⟨m1,m2,z2,kk,q2⟩) (het:T et = some ei) (H:Own (B.addR rs) h its) (hD:Xf B rs) (j:Nat) {b:Nat} (m:List (α×β)) (x:α) (hj:rs[j]? = some (b,Yo (m.map fun p=>(kv p.1,vv p.2))))
  {y:AV} (hy:fixV y = some (kv x)) (k:K ⟨put tm d (av ((aget m x).getD z)),h⟩) (hsl:slK ei.kind = false:=by rfl):lookK T K d tm h t (.val (.map (some b))) y false:=by
 have hr:=H.rawAt hD j hj
 simp only [lookK,aLook,ht,hy,hkt,het,hk.key,true_and,atMap,hr,Z5a,Zva hk vv]
 cases e:aget m x with
 | none=>simpa [e,hz] using k
 | some v=>simpa [e,hav,mapAV,hsl] using k
theorem look_ofR {t kt et n1 n2 m1 m2:Nat} {zz z2:List Value} {q q2:Option (List (Nat×TK))} {ei:TI} (hk:KeyV ⟨m1,m2,z2,kk,q2⟩ kv) (av:β→AV) (hav:∀ v,Y3 (vv v) = av v) (z:β) (hz:Y3 (Xza ei) = av z)
  (ht:T t = some ⟨n1,n2,zz,.map kt et,q⟩) (hkt:T kt = some ⟨m1,m2,z2,kk,q2⟩) (het:T et = some ei) {b:Nat} {m:List (α×β)} (hr:h.r b = some (Yo (m.map fun p=>(kv p.1,vv p.2)))) (x:α)
  {y:AV} (hy:fixV y = some (kv x)) (k:K ⟨put tm d (av ((aget m x).getD z)),h⟩) (hsl:slK ei.kind = false:=by rfl):lookK T K d tm h t (.val (.map (some b))) y false:=by
 simp only [lookK,aLook,ht,hy,hkt,het,hk.key,true_and,atMap,hr,Z5a,Zva hk vv]
 cases e:aget m x with
 | none=>simpa [e,hz] using k
 | some v=>simpa [e,hav,mapAV,hsl] using k
theorem upd_of' {t kt et n1 n2 m1 m2:Nat} {zz z2:List Value} {q q2:Option (List (Nat×TK))} (hk:KeyV ⟨m1,m2,z2,kk,q2⟩ kv) (ht:T t = some ⟨n1,n2,zz,.map kt et,q⟩) (hkt:T kt = some ⟨m1,m2,z2,kk,q2⟩)
  (H:Own (B.addR rs) h its) (hD:Xf B rs) (j:Nat) {b:Nat} (m:List (α×β)) (x:α) (v:β) (hj:rs[j]? = some (b,Yo (m.map fun p=>(kv p.1,vv p.2)))) {y u:AV} (hy:fixV y = some (kv x)) (hu:fixV u = some (vv v))
  (k:∀ h',Xf B (rs.set j (b,Yo ((aset m x v).map fun p=>(kv p.1,vv p.2))))→Own (B.addR (rs.set j (b,Yo ((aset m x v).map fun p=>(kv p.1,vv p.2))))) h' its→K ⟨put tm d .any,h'⟩):updK T K d tm h t (.val (.map (some b))) y u:=by
 have hr:=H.rawAt hD j hj
 simp only [updK,aUpd,aUpdV,ht,hy,hu,hr,hkt,Z5a,hk.key,true_and,Vka hk vv]
 obtain ⟨h1,h2⟩:=H.setRaw hD j hj (Yo ((aset m x v).map fun p=>(kv p.1,vv p.2)))
 exact k _ h1 h2
def lookS {β:Type} (ei:TI) (h:Hp) (vv:β→Value):Option β→AV
 | some v=>rowAV h (vv v)
 | none=>Y3 (Xza ei)
theorem look_sl {t kt et n1 n2 m1 m2:Nat} {zz z2:List Value} {q q2:Option (List (Nat×TK))} {ei:TI} (hk:KeyV ⟨m1,m2,z2,kk,q2⟩ kv)
  (ht:T t = some ⟨n1,n2,zz,.map kt et,q⟩) (hkt:T kt = some ⟨m1,m2,z2,kk,q2⟩) (het:T et = some ei) {b:Nat} {m:List (α×β)} (hr:h.r b = some (Yo (m.map fun p=>(kv p.1,vv p.2)))) (x:α)
  {y:AV} (hy:fixV y = some (kv x)) (hsl:slK ei.kind = true) (k:K ⟨put tm d (lookS ei h vv (aget m x)),h⟩):lookK T K d tm h t (.val (.map (some b))) y false:=by
 simp only [lookK,aLook,ht,hy,hkt,het,hk.key,true_and,atMap,hr,Z5a,Zva hk vv]
 cases e:aget m x with
 | none=>simpa [e,lookS] using k
 | some v=>simpa [e,mapAV,hsl,lookS] using k
theorem rowAV_some {h:Hp} {b n cap sz e m:Nat} {rows:List (List AV)} (ho:h b = some ⟨sz,rows,some (e,m)⟩) (hm:m≠0) (hc:n≤cap) (hs:cap * sz≤m):rowAV h (.slice (some ⟨b,0,none⟩) n cap) = .osl b sz 0 n:=by
 simp only [rowAV,ho]
 rw [if_pos ⟨hm,hc,hs⟩]
theorem Own.reTy {ty:Option (Nat×Nat)} {h0:Hp} (H:Own h0 h its) (j:Nat) {b sz n:Nat} {rows:List (List AV)} {o:Ob} (ty':Option (Nat×Nat)) (hj:its[j]? = some ⟨.osl b sz 0 n,false,sz,rows,ty⟩) (ho:h b = some o):Own h0 (h.upd b ⟨o.sz,o.rows,ty'⟩) (its.set j ⟨.osl b sz 0 n,false,sz,rows,ty'⟩):=by
 have hlt:=(List.getElem?_eq_some_iff.1 hj).1
 obtain ⟨⟨tl,ht⟩,hn⟩:=H.getS j hj
 rw [ho] at ht; cases ht
 have hb0:h0 b = none:=by
  obtain ⟨hs,f,a1,a2,a3⟩:=H
  have:=a1 j _ hj
  cases hf:f j with
  | none=>rw [hf] at this; cases this.1
  | some c=>
   rw [hf] at this
   have e:=this.1
   simp only [Itm.blk,Bool.false_eq_true,if_false] at e
   cases e; exact this.2.2
 refine H.change (some b) hlt (H.1.upd _ hb0) ⟨by simp [Itm.blk,hn],⟨tl,by simp,fun e=>by cases e⟩,hb0⟩ ?_
 intro f i it' c hne hi hf hinj hall
 have h1:=hall j _ hj
 have hbc:c≠b:=by
  rintro rfl
  cases hfj:f j with
  | none=>rw [hfj] at h1; cases h1.1
  | some d=>
   rw [hfj] at h1
   have e:=h1.1
   simp only [Itm.blk,Bool.false_eq_true,if_false] at e
   cases e; exact hne (hinj i j _ hf hfj)
 exact ⟨Hp.upd_ne _ _ hbc,fun e=>by cases e; exact hbc rfl⟩
theorem upd_sl {t kt et n1 n2 m1 m2:Nat} {zz z2:List Value} {q q2:Option (List (Nat×TK))} (hk:KeyV ⟨m1,m2,z2,kk,q2⟩ kv) (ht:T t = some ⟨n1,n2,zz,.map kt et,q⟩) (hkt:T kt = some ⟨m1,m2,z2,kk,q2⟩)
  (H:Own (B.addR rs) h its) (hD:Xf B rs) (j:Nat) {mb:Nat} (m:List (α×β)) (x:α) (mk:Nat→Nat→β) (hj:rs[j]? = some (mb,Yo (m.map fun p=>(kv p.1,vv p.2)))) {y:AV} (hy:fixV y = some (kv x))
  (i:Nat) {b sz n e e0:Nat} {rows:List (List AV)} (hi:its[i]? = some ⟨.osl b sz 0 n,false,sz,rows,some (e,e0)⟩) (hn:0 < n) (hs:0 < sz) (hmk:∀ cap m0,vv (mk cap m0) = .slice (some ⟨b,0,none⟩) n cap)
  (k:∀ cap m0 h',n≤cap→cap * sz≤m0→Xf B (rs.set j (mb,Yo ((aset m x (mk cap m0)).map fun p=>(kv p.1,vv p.2))))→Own (B.addR (rs.set j (mb,Yo ((aset m x (mk cap m0)).map fun p=>(kv p.1,vv p.2))))) h' (its.set i ⟨.osl b sz 0 n,false,sz,rows,some (e,m0)⟩)→K ⟨put tm d .any,h'⟩) :
  updK T K d tm h t (.val (.map (some mb))) y (.osl b sz 0 n):=by
 obtain ⟨⟨tl,ho⟩,hnr⟩:=H.getS i hi
 have hf:fixV (.osl b sz 0 n) = none:=rfl
 simp only [updK,aUpd,hf,ho]
 refine ⟨trivial,hn,hs,fun cap m0 h1 h2=>?_⟩
 have H2:=H.reTy i (some (e,m0)) hi ho
 have hr:=H2.rawAt hD j hj
 simp only [aUpdV,ht,hy,hr,hkt,Z5a,hk.key,true_and,← hmk cap m0,Vka hk vv]
 obtain ⟨h3,h4⟩:=H2.setRaw hD j hj (Yo ((aset m x (mk cap m0)).map fun p=>(kv p.1,vv p.2)))
 exact k cap m0 _ h1 h2 h3 h4
theorem range_ofS {t n1 n2:Nat} {zz:List Value} {q:Option (List (Nat×TK))} (ht:T t = some ⟨n1,n2,zz,.str,q⟩) (H:Own (B.addR rs) h its) (hD:Xf B rs) (s:ByteArray)
  (k:∀ r h',Xf B (rs++[(r,.stringIter s 0)])→Own (B.addR (rs++[(r,.stringIter s 0)])) h' its→K ⟨put tm d (.val (.pointer (some ⟨r,0,none⟩))),h'⟩):rangeK T K d tm h t (.val (.string s)):=by
 simp only [rangeK,X3b,ht]
 intro r hrn
 obtain ⟨h1,h2⟩:=H.addRaw hD hrn (.stringIter s 0)
 exact k r _ h1 h2
theorem range_ofS0 {t n1 n2:Nat} {zz:List Value} {q:Option (List (Nat×TK))} (ht:T t = some ⟨n1,n2,zz,.str,q⟩) (H:Own B h its) (s:ByteArray)
  (k:∀ r h',Xf B [(r,.stringIter s 0)]→Own (B.addR [(r,.stringIter s 0)]) h' its→K ⟨put tm d (.val (.pointer (some ⟨r,0,none⟩))),h'⟩):rangeK T K d tm h t (.val (.string s)):=
 range_ofS (rs:=[]) (B:=B) ht H ⟨fun _ h=>(by cases h),List.nodup_nil⟩ s k
theorem range_of {t kt et n1 n2:Nat} {zz:List Value} {q:Option (List (Nat×TK))} (ht:T t = some ⟨n1,n2,zz,.map kt et,q⟩) (H:Own (B.addR rs) h its) (hD:Xf B rs) (j:Nat) {b:Nat} (m:List (α×β)) (hj:rs[j]? = some (b,Yo (m.map fun p=>(kv p.1,vv p.2))))
  (k:∀ r h',Xf B (rs++[(r,Vg b m.length #[])])→Own (B.addR (rs++[(r,Vg b m.length #[])])) h' its→K ⟨put tm d (.val (.pointer (some ⟨r,0,none⟩))),h'⟩):rangeK T K d tm h t (.val (.map (some b))):=by
 have hr:=H.rawAt hD j hj
 simp only [rangeK,X3b,ht,hr,Z5a,List.length_map]
 intro r hrn
 obtain ⟨h1,h2⟩:=H.addRaw hD hrn (Vg b m.length #[])
 exact k r _ h1 h2
theorem iterAt_of (H:Own (B.addR rs) h its) (hD:Xf B rs) (j i:Nat) {b r:Nat} {seen:Array Nat} (m:List (α×β)) (hj:rs[j]? = some (b,Yo (m.map fun p=>(kv p.1,vv p.2)))) (hi:rs[i]? = some (r,Vg b m.length seen)) :
  iterAt h (.val (.pointer (some ⟨r,0,none⟩))) = some (r,b,m.length,seen,m.map fun p=>(kv p.1,vv p.2)):=by
 have h1:=H.rawAt hD j hj
 have h2:=H.rawAt hD i hi
 simp only [Vg] at h2
 simp only [iterAt,h2,h1,Z5a,List.length_map,and_self,if_true]
theorem next_of (ak:α→AV) (hak:∀ x,Y3 (kv x) = ak x) (av:β→AV) (hav:∀ v,Y3 (vv v) = av v) (H:Own (B.addR rs) h its) (hD:Xf B rs) (j i:Nat) {b r:Nat} {seen:Array Nat} (m:List (α×β)) (hj:rs[j]? = some (b,Yo (m.map fun p=>(kv p.1,vv p.2)))) (hi:rs[i]? = some (r,Vg b m.length seen))
  (k1:Y9a m.length seen = []→K ⟨put tm d (.tup [.val (.bool false)]),h⟩)
  (k2:∀ n∈Y9a m.length seen,∀ p,m[n]? = some p→∀ h',Xf B (rs.set i (r,Vg b m.length (seen.push n)))→Own (B.addR (rs.set i (r,Vg b m.length (seen.push n)))) h' its→K ⟨put tm d (.tup [.val (.bool true),ak p.1,av p.2]),h'⟩) :
  nextK K d tm h (.val (.pointer (some ⟨r,0,none⟩))):=by
 simp only [nextK,aNext,iterAt_of H hD j i m hj hi]
 refine ⟨k1,fun n hn p hp=>?_⟩
 rw [List.getElem?_map] at hp
 cases e:m[n]? with
 | none=>rw [e] at hp; cases hp
 | some p'=>
  rw [e] at hp; cases hp
  obtain ⟨h1,h2⟩:=H.setRaw hD i hi (Vg b m.length (seen.push n))
  simpa [hak,hav,Zk] using k2 n hn p' e _ h1 h2
theorem nextS_of (H:Own (B.addR rs) h its) (hD:Xf B rs) (i:Nat) {r:Nat} {s:ByteArray} {pos:Nat} (hi:rs[i]? = some (r,.stringIter s pos))
  (k1:¬ pos < s.size→K ⟨put tm d (.tup [.val (.bool false)]),h⟩)
  (k2:pos < s.size→∀ h',Xf B (rs.set i (r,.stringIter s (pos+(Utf8.decode s pos).2)))→Own (B.addR (rs.set i (r,.stringIter s (pos+(Utf8.decode s pos).2)))) h' its→K ⟨put tm d (.tup [.val (.bool true),.val (.int .i64 pos),.val (.int .i32 (Utf8.decode s pos).1)]),h'⟩) :
  nextSK K d tm h (.val (.pointer (some ⟨r,0,none⟩))):=by
 have h2:=H.rawAt hD i hi
 simp only [nextSK,aNextS,h2]
 split
 ·rename_i hp
  obtain ⟨g1,g2⟩:=H.setRaw hD i hi (.stringIter s (pos+(Utf8.decode s pos).2))
  exact k2 hp _ g1 g2
 ·rename_i hp; exact k1 hp
theorem entry_of (ak:α→AV) (hak:∀ x,Y3 (kv x) = ak x) (av:β→AV) (hav:∀ v,Y3 (vv v) = av v) (H:Own (B.addR rs) h its) (hD:Xf B rs) (j i:Nat) {b r n:Nat} {seen:Array Nat} (m:List (α×β)) {p:α×β} (hp:m[n]? = some p) (hj:rs[j]? = some (b,Yo (m.map fun p=>(kv p.1,vv p.2)))) (hi:rs[i]? = some (r,Vg b m.length (seen.push n)))
  (k:K ⟨put tm d (.tup [ak p.1,av p.2]),h⟩):entryK K d tm h (.val (.pointer (some ⟨r,0,none⟩))):=by
 simp only [entryK,aEntry,iterAt_of H hD j i m hj hi,Array.back?_push,List.getElem?_map,hp,Option.map_some,hak,hav]
 exact k
end
end Go.Proofs.YtpkhmfedaaoalaaGreatDoor.AM
namespace Go.Proofs.YtpkhmfedaaoalaaGreatDoor.AM
open Go
variable {α:Type} {f:α→AV} {x:List α} {i:Nat} {v:α}
theorem Kca (h:x[i]? = some v):x[i * 1]? = some v:=by simpa using h
theorem arrLen (h:i < x.length):i * 1+1≤(x.map f).length:=by rw [List.length_map]; omega
theorem arrSet (h:i < x.length):(x.map f).take (i * 1)++[f v]++(x.map f).drop (i * 1+1) = (x.set i v).map f:=by
 rw [List.map_set,List.set_eq_take_append_cons_drop]
 simp [h]
theorem arrAll {r xs:List AV} {n:Nat} (h:r.length = n):r.take 0++xs++r.drop (0+n) = xs:=by
 rw [List.drop_of_length_le (by omega)]; simp
theorem Yoa {n:Nat} (h:x.length = n):(x.map f).length = n:=by rw [List.length_map]; exact h
theorem arrAtA (h:x[i]? = some v) (r:List AV):(x.map f++r)[i * 1]? = some (f v):=by
 have hi:=(List.getElem?_eq_some_iff.1 h).1
 rw [Nat.mul_one,List.getElem?_append_left (by rw [List.length_map]; exact hi),List.getElem?_map,h]; rfl
theorem Xu {n:Nat} (h:x.length = n) (r:List AV):(x.map f++r).length = n+r.length:=by rw [List.length_append,List.length_map,h]
theorem Zz {n k:Nat} (h:x.length = n) (r:List AV):(x.map f++r)[n+k]? = r[k]?:=by
 rw [List.getElem?_append_right (by rw [List.length_map]; omega),List.length_map,h,Nat.add_sub_cancel_left]
theorem Zr {n k:Nat} (h:x.length = n) (r:List AV):(x.map f++r).take (n+k) = x.map f++r.take k:=by
 rw [List.take_append,List.length_map,h,Nat.add_sub_cancel_left,List.take_of_length_le (by rw [List.length_map]; omega)]
theorem Vb {n:Nat} (h:x.length = n) (r:List AV):(x.map f++r).take n = x.map f:=by
 have:=Zr (f:=f) (k:=0) h r; simpa using this
theorem arrStA {n c sz:Nat} {r xs r':List AV} (h:x.length = n) (e:r.take c++xs++r.drop (c+sz) = r'):(x.map f++r).take (n+c)++xs++(x.map f++r).drop (n+c+sz) = x.map f++r':=by
 have hl:(x.map f).length = n:=by rw [List.length_map]; exact h
 rw [Zr h,Nat.add_assoc,← hl,List.drop_length_add_append,← e]
 simp only [List.append_assoc]
section
variable {α:Type} {g:α→List AV} {l:List α} {n sz:Nat}
def Wda (g:α→List AV) (l:List α):List AV:=(l.map g).flatten
theorem Y3b:∀ {l:List α},(∀ v∈l,(g v).length = sz)→(Wda g l).length = l.length * sz
 | [],_=>by simp [Wda]
 | v :: l,h=>by
  have h1:=h v (by simp)
  have h2:=Y3b (l:=l) fun u hu=>h u (by simp [hu])
  simp only [Wda,List.map_cons,List.flatten_cons,List.length_append,List.length_cons,Nat.add_mul] at h2 ⊢
  rw [h2,h1]; omega
theorem flat2_get:∀ {l:List α} {i:Nat} {v:α},(∀ v∈l,(g v).length = sz)→l[i]? = some v→((Wda g l).drop (i * sz)).take sz = g v
 | u :: l,0,v,h,e=>by
  simp at e; subst e
  have h1:=h u (by simp)
  simp only [Wda,List.map_cons,List.flatten_cons,Nat.zero_mul,List.drop_zero]
  rw [List.take_append_of_le_length (by omega),List.take_of_length_le (by omega)]
 | u :: l,i+1,v,h,e=>by
  have h1:=h u (by simp)
  have:=flat2_get (l:=l) (i:=i) (v:=v) (fun w hw=>h w (by simp [hw])) (by simpa using e)
  simp only [Wda,List.map_cons,List.flatten_cons] at this ⊢
  rw [Nat.add_mul,Nat.one_mul,Nat.add_comm,← List.drop_drop,List.drop_append_of_le_length (by omega),List.drop_of_length_le (l:=g u) (by omega),List.nil_append]
  exact this
theorem idx2 {T:Tab} {tabT:Option TI} {e n1 n2 m2:Nat} {zz z2:List Value} {q1 q2:Option (List (Nat×TK))} {k:TK} {ik:IntKind} {i:Int} {v:α} (_:tabT = some (TI.mk n1 n2 zz (.arr n e) q1)) (he:T e = some ⟨sz,m2,z2,k,q2⟩) (hk:k.agg = true) (h0:0≤i) (hn:i.toNat < n) (hl:l.length = n) (hs:∀ v∈l,(g v).length = sz) (hv:l[i.toNat]? = some v) :
  indexT (some ⟨n1,n2,zz,.arr n e,q1⟩) T (.agg (Wda g l)) (.val (.int ik i)) = some (.agg (g v)):=by
 have e1:=Y3b hs
 have e2:=flat2_get hs hv
 have h3:i.toNat * sz+sz≤(Wda g l).length:=by
  rw [e1,hl,← Nat.succ_mul]; exact Nat.mul_le_mul_right _ hn
 simp only [indexT,atInt,h0,if_true,he,hn,apart,hk,h3,e2]
theorem afill_arr {T:Tab} {e:Nat} {ei:TI} (he:T e = some ei):∀ (parts:List (Nat×AV)) (l:List (List AV)),(∀ r∈l,r.length = ei.size)→(∀ p∈parts,p.1 < l.length∧p.2.okCells = true∧p.2.cells.length = ei.size) →
  Z8b (Xpb T (.arr n e)) l.flatten parts = some (parts.foldl (fun (l:List (List AV)) p=>l.set p.1 p.2.cells) l).flatten
 | [],l,_,_=>rfl
 | (i,x) :: ps,l,hl,hp=>by
  obtain ⟨h1,h2,h3⟩:=hp (i,x) (by simp)
  simp only at h1 h2 h3
  have ef:Wda id l = l.flatten:=by simp [Wda]
  have e1:=Y3b (g:=id) (l:=l) (sz:=ei.size) hl
  rw [ef] at e1
  have hle:i * ei.size+ei.size≤l.flatten.length:=by rw [e1,← Nat.succ_mul]; exact Nat.mul_le_mul_right _ h1
  have key:l.flatten.take (i * ei.size)++x.cells++l.flatten.drop (i * ei.size+ei.size) = (l.set i x.cells).flatten:=by
   clear e1 ef hle hp
   induction l generalizing i with
   | nil=>simp at h1
   | cons r l ih=>
    have hr:=hl r (by simp)
    cases i with
    | zero=>
     simp only [Nat.zero_mul,List.take_zero,List.nil_append,Nat.zero_add,List.flatten_cons,List.set_cons_zero]
     rw [List.drop_append_of_le_length (by omega),List.drop_of_length_le (by omega),List.nil_append]
    | succ i=>
     simp only [List.flatten_cons,List.set_cons_succ]
     rw [← ih i (fun u hu=>hl u (by simp [hu])) (by simpa using h1)]
     rw [Nat.add_mul,Nat.one_mul,Nat.add_comm (i * ei.size) ei.size,Nat.add_assoc,← hr]
     rw [List.take_length_add_append,List.drop_length_add_append]
     simp only [List.append_assoc]
     rw [Nat.add_comm (i * r.length) r.length]
  simp only [Z8b,Xpb,he]
  rw [if_pos ⟨h2,h3,hle⟩,key]
  refine afill_arr he ps _ ?_ ?_
  ·intro r hr
   rcases List.mem_or_eq_of_mem_set hr with h | h
   ·exact hl r h
   ·rw [h]; exact h3
  ·intro p hp'
   have:=hp p (by simp [hp'])
   simpa using this
theorem build2 {T:Tab} {tabT:Option TI} {e n1 n2 m2:Nat} {zz z2:List Value} {q1 q2:Option (List (Nat×TK))} {k:TK} (l:List α) {parts:List (Nat×AV)} (zl:List (List AV)) (_:tabT = some (TI.mk n1 n2 zz (.arr n e) q1)) (he:T e = some ⟨sz,m2,z2,k,q2⟩)
  (hz:zz.map AV.val = zl.flatten) (hzl:∀ r∈zl,r.length = sz) (hp:∀ p∈parts,p.1 < zl.length∧p.2.okCells = true∧p.2.cells.length = sz) (hl:parts.foldl (fun (l:List (List AV)) p=>l.set p.1 p.2.cells) zl = l.map g) :
  buildT (some ⟨n1,n2,zz,.arr n e,q1⟩) T parts = some (.agg (Wda g l)):=by
 have h1:Kda T (.arr n e) = true:=by simp [Kda,he]
 simp only [buildT,h1,if_true]
 rw [hz,afill_arr he parts zl hzl hp,hl]; rfl
theorem Y4b (hl:l.length = n) (hs:∀ v∈l,(g v).length = sz) {m:Nat} (hm:n * sz = m):(Wda g l).length = m:=by rw [Y3b hs,hl,hm]
end
end Go.Proofs.YtpkhmfedaaoalaaGreatDoor.AM
