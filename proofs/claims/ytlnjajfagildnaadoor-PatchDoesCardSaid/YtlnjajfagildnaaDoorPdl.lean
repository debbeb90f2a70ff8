/- PatchDoes: the patch from any pages to any others is the document's; so is any patch done on pages, its text, and that it can't be done or told; pages stay, whatever is cleared in the answers: for every input; proved of the tied card: the library's tables stand as the program's text lays them. -/
import Derived.Test.YtlnjajfagildnaaDoorPdr
import Derived.Test.YtlnjajfagildnaaDoorRow
import Derived.Test.YtlnjajfagildnaaDoorCards
import Derived.Test.YtlnjajfagildnaaDoorTie
import Derived.OpenShut
import Derived.ShutString
import Derived.ProofKit
import Derived.LaidMore
import Derived.SevenTiedAt
import Derived.Stop.Joined
namespace Go.Proofs.YtlnjajfagildnaaDoor
open Go Go.Proofs.YtlnjajfagildnaaDoor.AM Go.ChangeShapes Go.WideShapes Go.ChangeAt Go.RowKit
set_option maxRecDepth 100000

def tyLines : Ty := .slice 1 16 .str
def tyPages : Ty := .slice 1 24 tyLines

theorem dec_list {α : Type} {ty : Ty} {e : α → List AV} {p : α → Prop} (hd : ∀ r, ty.has r → ∃ x, r = e x ∧ p x) : ∀ (rows : List (List AV)), (∀ r ∈ rows, ty.has r) → ∃ l : List α, rows = l.map e ∧ ∀ x ∈ l, p x
  | [], _ => ⟨[], rfl, by simp⟩
  | r :: rows, h => by
    obtain ⟨x, rfl, hx⟩ := hd r (h r (by simp))
    obtain ⟨l, rfl, hl⟩ := dec_list hd rows fun q hq => h q (by simp [hq])
    exact ⟨x :: l, rfl, by simpa using ⟨hx, hl⟩⟩
theorem has_str (r : List AV) (h : Ty.str.has r) : ∃ x : ByteArray, r = encStr x ∧ True := by
  simp only [Ty.has] at h
  obtain ⟨s, rfl, _⟩ := h
  exact ⟨s, rfl, trivial⟩
theorem has_lines (r : List AV) (h : tyLines.has r) : ∃ x : List ByteArray, r = encSl 1 encStr x ∧ x.length ≤ big := by
  unfold tyLines at h
  simp only [Ty.has] at h
  obtain ⟨rows, rfl, hb, _, hr⟩ := h
  obtain ⟨l, rfl, _⟩ := dec_list has_str rows (fun r hr' => by simpa only [Ty.has] using hr r hr')
  rw [List.length_map] at hb
  refine ⟨l, rfl, ?_⟩
  have : l.length * 16 ≤ 140737488355328 := Nat.le_trans hb (by decide)
  unfold big; omega
theorem has_pages (r : List AV) (h : tyPages.has r) : ∃ x : List (List ByteArray), r = encSl 1 (encSl 1 encStr) x ∧ x.length ≤ big ∧ ∀ v ∈ x, v.length ≤ big := by
  unfold tyPages at h
  simp only [Ty.has] at h
  obtain ⟨rows, rfl, hb, _, hr⟩ := h
  obtain ⟨l, rfl, hl⟩ := dec_list has_lines rows hr
  rw [List.length_map] at hb
  refine ⟨l, rfl, ?_, hl⟩
  have : l.length * 24 ≤ 140737488355328 := Nat.le_trans hb (by decide)
  unfold big; omega

def tyChange : Ty := .struct [.int .i64, tyLines]
def tyPatch : Ty := .struct [.int .i64, .slice 2 32 tyChange]
theorem has_change (r : List AV) (h : tyChange.has r) : ∃ x : ApiChange, r = ApiChange.enc x ∧ x.Lines.length ≤ big := by
  unfold tyChange at h
  simp only [Ty.has, Ty.hasAll] at h
  obtain ⟨a, b, rfl, ⟨n1, rfl, _⟩, a2, b2, rfl, h2, rfl⟩ := h
  obtain ⟨x, rfl, hx⟩ := has_lines a2 h2
  exact ⟨⟨n1, x⟩, rfl, hx⟩
theorem has_patch (r : List AV) (h : tyPatch.has r) : ∃ x : ApiPatch, r = ApiPatch.enc x ∧ x.Changes.length ≤ big ∧ ∀ c ∈ x.Changes, c.Lines.length ≤ big := by
  unfold tyPatch at h
  simp only [Ty.has, Ty.hasAll] at h
  obtain ⟨a, b, rfl, ⟨n1, rfl, _⟩, a2, b2, rfl, ⟨rows, rfl, hb, _, hr⟩, rfl⟩ := h
  obtain ⟨l, rfl, hl⟩ := dec_list has_change rows hr
  rw [List.length_map] at hb
  refine ⟨⟨n1, l⟩, rfl, ?_, hl⟩
  have : l.length * 32 ≤ 140737488355328 := Nat.le_trans hb (by decide)
  show l.length ≤ big
  unfold big; omega

theorem own : ownKnob Tryd.prog.godebug = none := by kernel_rfl
theorem laidOut : laidOutB Tryd.prog = true := by kernel_rfl

theorem glob_of {W : World} (h : Lib.TabIs Tryd.prog W "internal/strconv.uint64pow10" .u64 Lib.pow10Tab) : Glob fun b => W.heap[b]? := by
  intro w hw
  unfold Laid
  unfold Lib.TabIs World.var? at h ⊢
  obtain ⟨g, h1, h2⟩ := Option.bind_eq_some_iff.1 h
  rw [h1]
  show (match w.heap[g]? with | some (.cells cs _ _) => some cs | _ => none) = _
  cases e : W.heap[g]? with
  | none => rw [e] at h2; cases h2
  | some o => rw [hw g o e]; rw [e] at h2; exact h2

theorem glob_of_laid {W : World} (h : laidMetH Tryd.prog Rows.patchDoesRow.laid W) : Glob fun b => W.heap[b]? := by
  refine glob_of ?_
  rw [MakeChecks.laidMetH_plain _ _ _ (by kernel_rfl)] at h
  obtain ⟨ps, ⟨g0, t0, cs0, f0, p0, q0, hg0, ht0, hv0, hd0, ⟨g1, t1, cs1, f1, p1, q1, hg1, ht1, hv1, hd1, ⟨g2, t2, cs2, f2, p2, q2, hg2, ht2, hv2, hd2, _, _⟩, _⟩, _⟩, _⟩ := h
  have hg : Tryd.prog.globalNamed "internal/strconv.uint64pow10" = some 1 ∧ (Tryd.prog.globals[1]?).map (·.type) = some 80 := ⟨by kernel_rfl, by kernel_rfl⟩
  obtain rfl := Option.some.inj (hg.1.symm.trans hg2)
  obtain rfl := Option.some.inj (hg.2.symm.trans ht2)
  have e : (Rows.laid_internal_strconv_uint64pow10 : DataW Unit) = Lib.tabData .u64 Lib.pow10Tab := by kernel_rfl
  rw [e] at hd2
  unfold Lib.TabIs
  rw [hv2, ← Lib.cells_of_tab (P := Tryd.prog) (t := 80) (e := 71) (n := 20) (by kernel_rfl) (by kernel_rfl) (by kernel_rfl) (by kernel_rfl) hd2]

theorem door_met (os : Os) (args : Array Value) : laidMetH Tryd.prog Rows.patchDoesRow.laid ((World.doorLaid Tryd.prog 4000 os).forCall (fun _ _ => 0) ⟨#[], args, []⟩).memory :=
  laidMetH_of_parts3 (fuel := 8) (laidMet_of_run' 8 (by kernel_rfl) (by kernel_rfl)) (by kernel_rfl) (by kernel_rfl)

theorem does_lifted (os : Os) (started : os.Started) (H : Type) (enc : TypeId × Value → H) :
    ReturnsInHanded {} Tryd.checked os 3 .any (fun w args => (Rows.patchDoesSpec.pre enc Tryd.prog Tryd.f3 [] false w args ∧ laidMetH Tryd.prog Rows.patchDoesRow.laid w) ∧ sizedMet enc Tryd.prog Tryd.f3 (OpenSpec.ofChange Rows.patchDoesSpec) false w args)
      (Rows.patchDoesSpec.post enc Tryd.prog Tryd.f3 false true false false) := by
  refine returnsInHanded_of_change_and (C := Tryd.checked) (X := fun w _ => laidMetH Tryd.prog Rows.patchDoesRow.laid w) (fun _ _ _ hh h => h.of_heap hh) own started (by kernel_rfl) Tryd.func3
    (ChangeSpec.witness_shaped (enc := enc) (C := Tryd.checked) (os := os) (X := fun w _ => laidMetH Tryd.prog Rows.patchDoesRow.laid w) false (World.doorLaid Tryd.prog 4000 os) #[.slice none 0 0, .slice none 0 0, .agg #[.int .i64 0, .slice none 0 0]] 8 rfl (World.shaped_of_RefB (by kernel_rfl) (by kernel_rfl)) (by kernel_rfl) (by kernel_rfl) (by kernel_rfl) (door_met os _)) ?_
  intro W base args ds gs before hval hW hcnd hsz hL _
  have hWk := hW
  obtain ⟨p, q, ht, hg, rfl, hfr, _⟩ := hW
  obtain ⟨rfl, rfl⟩ := trodVars_none hg
  have hts : (Tryd.f3).params.toList = [22, 22, 25] := by kernel_rfl
  rw [hts] at ht hsz
  have hsz' : (DataW.weightsEach Tryd.checked.prog [22, 22, 25] (ds ++ [])).all (· ≤ reachBytes) = true := hsz
  rw [List.append_nil] at hsz'
  obtain ⟨xs, hx, hv⟩ := args_of_trod (r := .any) (b0 := base) [tyPages, tyPages, tyPatch] [22, 22, 25] args.toList ds p ht (fun j t v h1 h2 => hval j t v (by rw [← Array.getElem?_toList, hts]; exact h1) (by rw [← Array.getElem?_toList]; exact h2)) (by kernel_rfl)
    (fun n hn => by have := List.all_eq_true.1 hsz' n hn; simpa using this)
  have key : ∃ (l1 l2 : List (List ByteArray)) (l3 : ApiPatch), xs = [.isl 1 (l1.map (encSl 1 AM.encStr)), .isl 1 (l2.map (encSl 1 AM.encStr)), .agg (ApiPatch.enc l3)] ∧ (l1.length ≤ big ∧ ∀ v ∈ l1, v.length ≤ big) ∧ (l2.length ≤ big ∧ ∀ v ∈ l2, v.length ≤ big) ∧ (l3.Changes.length ≤ big ∧ ∀ c ∈ l3.Changes, c.Lines.length ≤ big) := by
    simp only [Ty.haveArgs] at hx
    obtain ⟨c1, y1, rfl, h1, c2, y2, rfl, h2, c3, y3, rfl, h3, rfl⟩ := hx
    obtain ⟨l1, rfl, k1⟩ := has_pages _ h1
    obtain ⟨l2, rfl, k2⟩ := has_pages _ h2
    obtain ⟨l3, rfl, k3⟩ := has_patch _ h3
    exact ⟨l1, l2, l3, rfl, k1, k2, k3⟩
  obtain ⟨l1, l2, l3, rfl, k1, k2, k3⟩ := key
  have hc := PatchDoes_ok l1 l2 l3 k1.1 k1.2 k2.1 k2.2 k3.1 k3.2
  refine (law_calls (u := .bool true) hc (fun e h' q => q) hv (glob_of_laid hL)).mono fun e W' ⟨he, hbel⟩ => ?_
  obtain ⟨v, v', v'', d, d', d'', p1, p2, p3, hargs, rfl, -, -, -, -⟩ := trodAll_three ht
  refine ⟨.bool true, he, [d, d', d''], [], _, [], p, [], hWk, trodAll_mk1 (shut_bool Tryd.underlying4 _), ?_, rfl, hbel.frame _, fun h => by cases h⟩
  rw [hts]
  exact trodAll_below laidOut hbel [22, 22, 25] _ _ _ (by kernel_rfl) ht

theorem patchDoes_said : Rows.PatchDoesSaid :=
  OpenClaim.holds_of_wide 3 Tryd.f3 rfl rfl rfl rfl rfl rfl rfl ⟨rfl, rfl, rfl, rfl, rfl⟩ rfl rfl rfl rfl rfl (by kernel_rfl) Tryd.func3 (by kernel_rfl) (of_decide_eq_true (by kernel_rfl))
    (by unfold Func.isWrapper; first | (rw [if_pos (by decide +kernel)]; kernel_rfl) | (rw [if_neg (by decide +kernel)]; exact ⟨rfl, rfl⟩)) (fun os started H enc _ => does_lifted os started H enc)

theorem patchDoes_holds : Rows.PatchDoesCardSaid :=
  Claim7.holds_tied_plain_at .later [] [.data, .data, .data] true (true, "df8ceebe9d9a23ea88c717c15cc64d02697d196dafa21674b79fc0c9593fe653") false
    patchDoes_said (fun _ h => by cases h) (by kernel_rfl) (fun _ h => by cases h) patchDoes_row_tie rfl ⟨rfl, rfl⟩ (by kernel_rfl) rfl
    (fun f fn hf hfn => by
      obtain rfl : f = 3 := Option.some.inj ((show Tryd.prog.funcNamed "stylus/styluslaw35.PatchDoes" = some 3 by kernel_rfl).symm.trans hf) |>.symm
      obtain rfl : fn = Tryd.f3 := (Option.some.inj (Tryd.func3.symm.trans hfn)).symm
      exact ⟨by kernel_rfl, fun j t ht => by
        have hts : (Tryd.f3).params = #[22, 22, 25] := by kernel_rfl
        rw [hts] at ht
        rcases j with _ | _ | _ | j <;> simp at ht
        · subst ht; exact (show Tryd.prog.wantsStandIn 22 = false by kernel_rfl)
        · subst ht; exact (show Tryd.prog.wantsStandIn 22 = false by kernel_rfl)
        · subst ht; exact (show Tryd.prog.wantsStandIn 25 = false by kernel_rfl)⟩)
    (by kernel_rfl)
end Go.Proofs.YtlnjajfagildnaaDoor
