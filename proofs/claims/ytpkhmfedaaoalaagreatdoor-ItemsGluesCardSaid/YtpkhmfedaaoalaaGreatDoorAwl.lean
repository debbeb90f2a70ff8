/- ItemsGlues: a part of its proof (packed by a program). -/
import Derived.Test.YtpkhmfedaaoalaaGreatDoorItj
import Derived.Test.YtpkhmfedaaoalaaGreatDoorAwa
import Derived.Test.YtpkhmfedaaoalaaGreatDoorAwb
import Derived.Test.YtpkhmfedaaoalaaGreatDoorAwc
import Derived.Test.YtpkhmfedaaoalaaGreatDoorAwd
import Derived.Test.YtpkhmfedaaoalaaGreatDoorAwe
set_option linter.all false
namespace Go.Proofs.YtpkhmfedaaoalaaGreatDoor
open Go Go.Proofs.YtpkhmfedaaoalaaGreatDoor.AM
def kindOK (x:Zh) (c:UInt8):Bool:=decide (I64 (IntKind.u8.wrap ((c.toNat:Int) - 48))) && decide (x.Kind = IntKind.u8.wrap ((c.toNat:Int) - 48))
theorem kinds_w (s want:ByteArray) (at_:Int) (l:List Ze) (hs:∀ {Q:List Ze→Prop},Q l→Yt.w s Q) (hl:l.length≤1000) (hb:∀ x∈l,Byte x.Ch) (hm:MetOk Zzb)
  (L:List Zh) (ho:ofP l Zzb at_ = (L,0)) (hw:L.length = want.size) (hn:L.length≤1000) (hk:(List.range L.length).all (fun i=>match L[i]?,want[i]? with | some x,some c=>kindOK x c | _,_=>false) = true) {Q:Bool→Prop} (h:Q true):Ye.w s at_ want Q:=by
 refine hs ⟨Zzb,even1_pure,Of_w l hl hb Zzb hm at_ ?_⟩
 rw [ho]
 dsimp only
 rw [if_pos rfl,if_pos (by rw [hw])]
 refine wfor (fun s=>s) (fun n=>(n:Int)) L.length (fun _=>True) (fun _ _=>rfl) rfl trivial ?_ ?_
 ·intro n hlt _ K hK
  rw [if_pos (by exact_mod_cast hlt)]
  have:=List.all_eq_true.1 hk n (List.mem_range.2 hlt)
  have e1:L[n]? = some L[n]:=List.getElem?_eq_getElem hlt
  rw [e1] at this
  cases e2:want[n]? with
  | none=>rw [e2] at this; cases this
  | some c=>
   rw [e2] at this
   simp only [kindOK,Bool.and_eq_true,decide_eq_true_eq] at this
   refine ⟨by omega,L[n],by simpa using e1,c,by simpa using e2,this.1,?_⟩
   rw [if_pos this.2]
   exact ⟨by unfold I64; omega,hK trivial⟩
 ·intro _ K
  rw [if_neg (by omega)]
  exact h
theorem Jaa:MetOk Zzb:=⟨by kernel_rfl,by decide,by decide⟩
theorem t1 {Q:List Ze→Prop} (h:Q toks1):Yt.w (ByteArray.mk #[123,112,32,97,32,98,125]) Q:=parse1 (norm1 (flat1 h))
theorem t2 {Q:List Ze→Prop} (h:Q toks2):Yt.w (ByteArray.mk #[123,112,32,97,123,110,32,120,125,46,125]) Q:=parse2 (norm2 (Wda h))
theorem t3 {Q:List Ze→Prop} (h:Q toks3):Yt.w (ByteArray.mk #[123,112,32,108,101,116,116,101,114,125]) Q:=parse3 (norm3 (flat3 h))
theorem t4 {Q:List Ze→Prop} (h:Q toks4):Yt.w (ByteArray.mk #[123,112,32,108,101,123,101,32,116,116,101,114,125,125]) Q:=parse4 (norm4 (flat4 h))
theorem awake_w {Q:Bool→Prop} (h:Q true):Yh.w Q:=by
 have b:∀ {l:List Ze},(l.all fun x=>decide (0≤x.Ch∧x.Ch≤255)) = true→∀ x∈l,Byte x.Ch:=fun h x hx=>by
  exact of_decide_eq_true (List.all_eq_true.1 h x hx)
 have fst:∀ {l:List Ze} {a:Int},(ofP l Zzb a).2 = 0→ofP l Zzb a = ((ofP l Zzb a).1,0):=fun h=>Prod.ext rfl h
 refine t1 ⟨Zzb,even1_pure,Of_w toks1 (by decide) (b (by kernel_rfl)) Zzb Jaa 0 ?_⟩
 have e1:(ofP toks1 Zzb 0).2 = 0:=by kernel_rfl
 have e2:(ofP toks1 Zzb 0).1.length = 3:=by kernel_rfl
 rw [if_pos e1,if_pos (by rw [e2]; rfl)]
 refine ⟨(ofP toks1 Zzb 0).1.getD 0 default,by rw [List.getD,List.getElem?_eq_getElem (by rw [e2]; decide)]; rfl,?_⟩
 rw [if_pos (by kernel_rfl)]
 refine ⟨(ofP toks1 Zzb 0).1.getD 1 default,by rw [List.getD,List.getElem?_eq_getElem (by rw [e2]; decide)]; rfl,?_⟩
 rw [if_pos (by kernel_rfl),if_pos (by kernel_rfl)]
 refine kinds_w _ _ _ toks1 t1 (by decide) (b (by kernel_rfl)) Jaa _ (fst e1) (by kernel_rfl) (by rw [e2]; decide) (by kernel_rfl) ?_
 rw [if_pos rfl]
 refine kinds_w _ _ _ toks2 t2 (by decide) (b (by kernel_rfl)) Jaa _ (fst (by kernel_rfl)) (by kernel_rfl) (Nat.le_of_ble_eq_true (by kernel_rfl)) (by kernel_rfl) ?_
 rw [if_pos rfl]
 refine kinds_w _ _ _ toks2 t2 (by decide) (b (by kernel_rfl)) Jaa _ (fst (by kernel_rfl)) (by kernel_rfl) (Nat.le_of_ble_eq_true (by kernel_rfl)) (by kernel_rfl) ?_
 rw [if_pos rfl]
 refine kinds_w _ _ _ toks3 t3 (by decide) (b (by kernel_rfl)) Jaa _ (fst (by kernel_rfl)) (by kernel_rfl) (Nat.le_of_ble_eq_true (by kernel_rfl)) (by kernel_rfl) ?_
 rw [if_pos rfl]
 exact kinds_w _ _ _ toks4 t4 (by decide) (b (by kernel_rfl)) Jaa _ (fst (by kernel_rfl)) (by kernel_rfl) (Nat.le_of_ble_eq_true (by kernel_rfl)) (by kernel_rfl) h
end Go.Proofs.YtpkhmfedaaoalaaGreatDoor
