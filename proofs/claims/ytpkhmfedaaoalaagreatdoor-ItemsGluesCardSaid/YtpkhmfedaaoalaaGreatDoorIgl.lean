/- ItemsGlues: a part of its proof (packed by a program). -/
import Derived.Test.YtpkhmfedaaoalaaGreatDoorItm
import Derived.Test.YtpkhmfedaaoalaaGreatDoorAwl
import Derived.Test.YtpkhmfedaaoalaaGreatDoorIoc
import Derived.Lay
import Derived.Test.YtpkhmfedaaoalaaGreatDoorCards
import Derived.Test.YtpkhmfedaaoalaaGreatDoorTie
set_option linter.all false
namespace Go.Proofs.YtpkhmfedaaoalaaGreatDoor
open Go Go.Proofs.YtpkhmfedaaoalaaGreatDoor.AM Go.ChangeShapes Go.WideShapes Go.ChangeAt Go.RowKit
set_option maxRecDepth 100000
theorem itemsGlues_lifted (os:Os) (started:os.Started) (H:Type) (enc:TypeId×Value→H) :
  ReturnsInHanded {} Tryz.checked os 5 .any (fun w args=>(Rows.itemsGluesSpec.pre enc Tryz.prog Tryz.f5 [] false w args∧laidMetH Tryz.prog Rows.itemsGluesRow.laid w)∧sizedMet enc Tryz.prog Tryz.f5 (OpenSpec.ofChange Rows.itemsGluesSpec) false w args)
   (Rows.itemsGluesSpec.post enc Tryz.prog Tryz.f5 false true false false):=by
 refine returnsInHanded_of_change_and (C:=Tryz.checked) (X:=fun w _=>laidMetH Tryz.prog Rows.itemsGluesRow.laid w) (fun _ _ _ hh h=>h.of_heap hh) own started (by kernel_rfl) Tryz.func5
  (ChangeSpec.witness_shaped (enc:=enc) (C:=Tryz.checked) (os:=os) (X:=fun w _=>laidMetH Tryz.prog Rows.itemsGluesRow.laid w) false (World.laidAll Tryz.prog os Rows.itemsGluesRow.laid) #[.slice none 0 0,.agg (Array.replicate 130 (.int .i64 0)++#[.slice none 0 0])] 8 (World.laidAll_os _ _ _)
   (World.shaped_of_ZipB (by kernel_rfl) (by kernel_rfl)) (by kernel_rfl) (by kernel_rfl) (by kernel_rfl)
   (by rw [MakeChecks.laidMetH_plain _ _ _ (by kernel_rfl)]; exact laidMet_laidAll _ (by kernel_rfl) (by kernel_rfl))) ?_
 intro W base args ds gs before hval hW hcnd hsz hL _
 have hWk:=hW
 obtain ⟨p,q,ht,hg,rfl,hfr,_⟩:=hW
 obtain ⟨rfl,rfl⟩:=trodVars_none hg
 have hts:(Tryz.f5).params.toList = [22,26]:=by kernel_rfl
 rw [hts] at ht hsz
 have hsz':(DataW.weightsEach Tryz.checked.prog [22,26] (ds++[])).all (·≤reachBytes) = true:=hsz
 rw [List.append_nil] at hsz'
 obtain ⟨xs,hx,hv⟩:=args_of_trod (r:=.any) (b0:=base) [.slice 3 24 tyTok,tyMetric] [22,26] args.toList ds p ht (fun j t v h1 h2=>hval j t v (by rw [← Array.getElem?_toList,hts]; exact h1) (by rw [← Array.getElem?_toList]; exact h2)) (by kernel_rfl)
  (fun n hn=>by have:=List.all_eq_true.1 hsz' n hn; simpa using this)
 have key:∃ (l1:List Ze) (l2:Zg),xs = [.isl 3 (l1.map Ze.enc),.agg (Zg.enc l2)]∧(∀ t∈l1,0≤t.Ch∧t.Ch≤255)∧l2.Widths.length = 128:=by
  simp only [Ty.haveArgs] at hx
  obtain ⟨c1,y1,rfl,h1,c2,y2,rfl,h2,rfl⟩:=hx
  obtain ⟨l1,rfl,k1⟩:=has_toks _ h1
  obtain ⟨l2,rfl,k2⟩:=has_metric _ h2
  exact ⟨l1,l2,rfl,k1,k2⟩
 obtain ⟨l1,l2,rfl,k1,k2⟩:=key
 have hc:=styluslaw18_ItemsGlues.ok (glues_w l1 l2 k1 k2 (fun h=>awake_w h)) Hp.nil
 refine (law_calls (u:=.bool true) hc (fun e h' q=>by obtain ⟨r,rfl,_,rfl⟩:=q; rfl) hv (glob_any W)).mono fun e W' ⟨he,hbel⟩=>?_
 obtain ⟨v,v',d,d',p1,p2,hargs,rfl,-,-,-⟩:=trodAll_two ht
 refine ⟨.bool true,he,[d,d'],[],_,[],p,[],hWk,trodAll_mk1 (shut_bool Tryz.underlying4 _),?_,rfl,hbel.frame _,fun h=>by cases h⟩
 rw [hts]
 exact Yfb laidOut hbel [22,26] _ _ _ (by kernel_rfl) ht
theorem itemsGlues_said:Rows.ItemsGluesSaid:=
 OpenClaim.holds_of_wide 5 Tryz.f5 rfl rfl rfl rfl rfl rfl rfl ⟨rfl,rfl,rfl,rfl,rfl⟩ rfl rfl rfl rfl rfl (by kernel_rfl) Tryz.func5 (by kernel_rfl) (of_decide_eq_true (by kernel_rfl))
  (by unfold Func.isWrapper; first | (rw [if_pos (by decide +kernel)]; kernel_rfl) | (rw [if_neg (by decide +kernel)]; exact ⟨rfl,rfl⟩)) (fun os started H enc _=>itemsGlues_lifted os started H enc)
theorem itemsGlues_holds:Rows.ItemsGluesCardSaid:=
 Claim7.holds_tied_plain_at .later [] [.data,.pinned] true (true, "976f92be899c5034f00bb1acf0fef8497a90cbc955ec1ea394f01cb5e53af34b") false
  itemsGlues_said (fun _ h=>by cases h) (by kernel_rfl) (fun _ h=>by cases h) itemsGlues_row_tie rfl ⟨rfl,rfl⟩ (by kernel_rfl) rfl
  (fun f fn hf hfn=>by
   obtain rfl:f = 5:=Option.some.inj ((show Tryz.prog.funcNamed "stylus/styluslaw18.ItemsGlues" = some 5 by kernel_rfl).symm.trans hf) |>.symm
   obtain rfl:fn = Tryz.f5:=(Option.some.inj (Tryz.func5.symm.trans hfn)).symm
   exact ⟨by kernel_rfl,fun j t ht=>by
    have hts:(Tryz.f5).params = #[22,26]:=by kernel_rfl
    rw [hts] at ht
    rcases j with _ | _ | j <;> simp at ht
    ·subst ht; exact (show Tryz.prog.wantsStandIn 22 = false by kernel_rfl)
    ·subst ht; exact (show Tryz.prog.wantsStandIn 26 = false by kernel_rfl)⟩)
  (by kernel_rfl)
end Go.Proofs.YtpkhmfedaaoalaaGreatDoor
