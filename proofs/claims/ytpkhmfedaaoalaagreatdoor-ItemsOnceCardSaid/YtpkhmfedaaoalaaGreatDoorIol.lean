/- A part of the proof that Iol's row holds (made smaller by a program: its texts stand in wip/tpl). -/
import Derived.Test.YtpkhmfedaaoalaaGreatDoorItl
import Derived.Test.YtpkhmfedaaoalaaGreatDoorAwl
import Derived.Test.YtpkhmfedaaoalaaGreatDoorIoc
import Derived.Lay
import Derived.Test.YtpkhmfedaaoalaaGreatDoorCards
import Derived.Test.YtpkhmfedaaoalaaGreatDoorTie
set_option linter.unusedSimpArgs false
set_option linter.unusedVariables false
set_option linter.unusedSectionVars false
namespace Go.Proofs.YtpkhmfedaaoalaaGreatDoor
open Go Go.Proofs.YtpkhmfedaaoalaaGreatDoor.AM Go.ChangeShapes Go.WideShapes Go.ChangeAt Go.RowKit
set_option linter.unnecessarySimpa false
set_option maxRecDepth 100000
set_option linter.unusedVariables false
theorem itemsOnce_lifted (os:Os) (started:os.Started) (H:Type) (enc:TypeId×Value→H) :
  ReturnsInHanded {} Tryz.checked os 4 .any (fun w args=>(Rows.itemsOnceSpec.pre enc Tryz.prog Tryz.f4 [] false w args∧laidMetH Tryz.prog Rows.itemsOnceRow.laid w)∧sizedMet enc Tryz.prog Tryz.f4 (OpenSpec.ofChange Rows.itemsOnceSpec) false w args)
   (Rows.itemsOnceSpec.post enc Tryz.prog Tryz.f4 false true false false):=by
 refine returnsInHanded_of_change_and (C:=Tryz.checked) (X:=fun w _=>laidMetH Tryz.prog Rows.itemsOnceRow.laid w) (fun _ _ _ hh h=>h.of_heap hh) own started (by kernel_rfl) Tryz.func4
  (ChangeSpec.witness_shaped (enc:=enc) (C:=Tryz.checked) (os:=os) (X:=fun w _=>laidMetH Tryz.prog Rows.itemsOnceRow.laid w) false (World.laidAll Tryz.prog os Rows.itemsOnceRow.laid) #[.slice none 0 0,.agg (Array.replicate 130 (.int .i64 0)++#[.slice none 0 0])] 8 (World.laidAll_os _ _ _)
   (World.shaped_of_ZipB (by kernel_rfl) (by kernel_rfl)) (by kernel_rfl) (by kernel_rfl) (by kernel_rfl)
   (by rw [MakeChecks.laidMetH_plain _ _ _ (by kernel_rfl)]; exact laidMet_laidAll _ (by kernel_rfl) (by kernel_rfl))) ?_
 intro W base args ds gs before hval hW hcnd hsz hL _
 have hWk:=hW
 obtain ⟨p,q,ht,hg,rfl,hfr,_⟩:=hW
 obtain ⟨rfl,rfl⟩:=trodVars_none hg
 have hts:(Tryz.f4).params.toList = [22,26]:=by kernel_rfl
 rw [hts] at ht hsz
 have hsz':(DataW.weightsEach Tryz.checked.prog [22,26] (ds++[])).all (·≤reachBytes) = true:=hsz
 rw [List.append_nil] at hsz'
 obtain ⟨xs,hx,hv⟩:=args_of_trod (r:=.any) (b0:=base) [.slice 3 24 tyTok,tyMetric] [22,26] args.toList ds p ht (fun j t v h1 h2=>hval j t v (by rw [← Array.getElem?_toList,hts]; exact h1) (by rw [← Array.getElem?_toList]; exact h2)) (by kernel_rfl)
  (fun n hn=>by have:=List.all_eq_true.1 hsz' n hn; simpa using this)
 have key:∃ (l1:List Ze) (l2:Zg),xs = [.isl 3 (l1.map Ze.enc),.agg (Zg.enc l2)]∧(∀ t∈l1,0≤t.Ch∧t.Ch≤255)∧l2.Widths.length = 128:=by
  simp only [Ty.haveArgs] at hx
  obtain ⟨c1,y1,rfl,h1,c2,y2,rfl,h2,rfl⟩:=hx
  obtain ⟨l1,rfl,k1⟩:=has_toks _ h1
  obtain ⟨l2,rfl,k2⟩:=has_metric _ h2
  exact ⟨l1,l2,rfl,k1,k2⟩
 obtain ⟨l1,l2,rfl,k1,k2⟩:=key
 have hc:=Xd.ok (once_w l1 l2 k1 k2 (fun h=>awake_w h)) Hp.nil
 refine (law_calls (u:=.bool true) hc (fun e h' q=>by obtain ⟨r,rfl,_,rfl⟩:=q; rfl) hv (glob_any W)).mono fun e W' ⟨he,hbel⟩=>?_
 obtain ⟨v,v',d,d',p1,p2,hargs,rfl,-,-,-⟩:=trodAll_two ht
 refine ⟨.bool true,he,[d,d'],[],_,[],p,[],hWk,trodAll_mk1 (shut_bool Tryz.underlying4 _),?_,rfl,hbel.frame _,fun h=>by cases h⟩
 rw [hts]
 exact Yfb laidOut hbel [22,26] _ _ _ (by kernel_rfl) ht
theorem itemsOnce_said:Rows.ItemsOnceSaid:=
 OpenClaim.holds_of_wide 4 Tryz.f4 rfl rfl rfl rfl rfl rfl rfl ⟨rfl,rfl,rfl,rfl,rfl⟩ rfl rfl rfl rfl rfl (by kernel_rfl) Tryz.func4 (by kernel_rfl) (of_decide_eq_true (by kernel_rfl))
  (by unfold Func.isWrapper; first | (rw [if_pos (by decide +kernel)]; kernel_rfl) | (rw [if_neg (by decide +kernel)]; exact ⟨rfl,rfl⟩)) (fun os started H enc _=>itemsOnce_lifted os started H enc)
theorem itemsOnce_holds:Rows.ItemsOnceCardSaid:=
 Claim7.holds_tied_plain_at .later [] [.data,.pinned] true (true, "976f92be899c5034f00bb1acf0fef8497a90cbc955ec1ea394f01cb5e53af34b") false
  itemsOnce_said (fun _ h=>by cases h) (by kernel_rfl) (fun _ h=>by cases h) itemsOnce_row_tie rfl ⟨rfl,rfl⟩ (by kernel_rfl) rfl
  (fun f fn hf hfn=>by
   obtain rfl:f = 4:=Option.some.inj ((show Tryz.prog.funcNamed "stylus/styluslaw18.ItemsOnce" = some 4 by kernel_rfl).symm.trans hf) |>.symm
   obtain rfl:fn = Tryz.f4:=(Option.some.inj (Tryz.func4.symm.trans hfn)).symm
   exact ⟨by kernel_rfl,fun j t ht=>by
    have hts:(Tryz.f4).params = #[22,26]:=by kernel_rfl
    rw [hts] at ht
    rcases j with _ | _ | j <;> simp at ht
    ·subst ht; exact (show Tryz.prog.wantsStandIn 22 = false by kernel_rfl)
    ·subst ht; exact (show Tryz.prog.wantsStandIn 26 = false by kernel_rfl)⟩)
  (by kernel_rfl)
end Go.Proofs.YtpkhmfedaaoalaaGreatDoor
