/- PatchTexts: a patch's text is read as it; what any text is read as is told by it; a text that is none is told by its line: for every input; proved of the tied card: the library's tables and its two errors stand as the program's text lays them. -/
import Derived.Test.YtggcmnoacplbkaaDoorPtp
import Derived.Test.YtggcmnoacplbkaaDoorRow
import Derived.Test.YtggcmnoacplbkaaDoorCards
import Derived.Test.YtggcmnoacplbkaaDoorTie
import Derived.OpenShut
import Derived.ShutString
import Derived.ProofKit
import Derived.LaidMore
import Derived.SevenTiedAt
import Derived.Stop.Joined
import Derived.Stop.LaidErr
namespace Go.Proofs.YtggcmnoacplbkaaDoor
open Go Go.Proofs.YtggcmnoacplbkaaDoor.AM Go.ChangeShapes Go.WideShapes Go.ChangeAt Go.RowKit
set_option maxRecDepth 100000

def tyLines : Ty := .slice 1 16 .str
def tyPages : Ty := .slice 1 24 tyLines

theorem dec_list {α : Type} {ty : Ty} {e : α → List AV} {p : α → Prop} (hd : ∀ r, ty.has r → ∃ x, r = e x ∧ p x) : ∀ (rows : List (List AV)), (∀ r ∈ rows, ty.has r) → ∃ l : List α, rows = l.map e ∧ ∀ x ∈ l, p x
  | [], _ => ⟨[], rfl, by simp⟩
  | r :: rows, h => by
    obtain ⟨x, rfl, hx⟩ := hd r (h r (by simp))
    obtain ⟨l, rfl, hl⟩ := dec_list hd rows fun q hq => h q (by simp [hq])
    exact ⟨x :: l, rfl, by simpa using ⟨hx, hl⟩⟩
theorem has_str (r : List AV) (h : Ty.str.has r) : ∃ x : ByteArray, r = encStr x ∧ True := by
  simp only [Ty.has] at h
  obtain ⟨s, rfl, _⟩ := h
  exact ⟨s, rfl, trivial⟩
theorem has_lines (r : List AV) (h : tyLines.has r) : ∃ x : List ByteArray, r = encSl 1 encStr x ∧ x.length ≤ big := by
  unfold tyLines at h
  simp only [Ty.has] at h
  obtain ⟨rows, rfl, hb, _, hr⟩ := h
  obtain ⟨l, rfl, _⟩ := dec_list has_str rows (fun r hr' => by simpa only [Ty.has] using hr r hr')
  rw [List.length_map] at hb
  refine ⟨l, rfl, ?_⟩
  have : l.length * 16 ≤ 140737488355328 := Nat.le_trans hb (by decide)
  unfold big; omega
theorem has_pages (r : List AV) (h : tyPages.has r) : ∃ x : List (List ByteArray), r = encSl 1 (encSl 1 encStr) x ∧ x.length ≤ big ∧ ∀ v ∈ x, v.length ≤ big := by
  unfold tyPages at h
  simp only [Ty.has] at h
  obtain ⟨rows, rfl, hb, _, hr⟩ := h
  obtain ⟨l, rfl, hl⟩ := dec_list has_lines rows hr
  rw [List.length_map] at hb
  refine ⟨l, rfl, ?_, hl⟩
  have : l.length * 24 ≤ 140737488355328 := Nat.le_trans hb (by decide)
  unfold big; omega

def tyChange : Ty := .struct [.int .i64, tyLines]
def tyPatch : Ty := .struct [.int .i64, .slice 2 32 tyChange]
theorem has_change (r : List AV) (h : tyChange.has r) : ∃ x : ApiChange, r = ApiChange.enc x ∧ x.Lines.length ≤ big := by
  unfold tyChange at h
  simp only [Ty.has, Ty.hasAll] at h
  obtain ⟨a, b, rfl, ⟨n1, rfl, _⟩, a2, b2, rfl, h2, rfl⟩ := h
  obtain ⟨x, rfl, hx⟩ := has_lines a2 h2
  exact ⟨⟨n1, x⟩, rfl, hx⟩
theorem has_patch (r : List AV) (h : tyPatch.has r) : ∃ x : ApiPatch, r = ApiPatch.enc x ∧ x.Changes.length ≤ big ∧ ∀ c ∈ x.Changes, c.Lines.length ≤ big := by
  unfold tyPatch at h
  simp only [Ty.has, Ty.hasAll] at h
  obtain ⟨a, b, rfl, ⟨n1, rfl, _⟩, a2, b2, rfl, ⟨rows, rfl, hb, _, hr⟩, rfl⟩ := h
  obtain ⟨l, rfl, hl⟩ := dec_list has_change rows hr
  rw [List.length_map] at hb
  refine ⟨⟨n1, l⟩, rfl, ?_, hl⟩
  have : l.length * 32 ≤ 140737488355328 := Nat.le_trans hb (by decide)
  show l.length ≤ big
  unfold big; omega

theorem own : ownKnob Tryd.prog.godebug = none := by kernel_rfl
theorem laidOut : laidOutB Tryd.prog = true := by kernel_rfl

theorem star : "*" ++ "errors.errorString" = "*errors.errorString" := by decide
theorem row_err (u : TypeId) (h : Tryd.prog.typeName? 3 u = some "*errors.errorString") : u = 114 :=
  typeName_ptr_named (nm := "errors.errorString") (by rw [star]; kernel_rfl) (by kernel_rfl) (by decide) u (by rw [star]; exact h)
theorem var_mono {W w : World} (hw : ∀ (b : Nat) (o : Obj), W.heap[b]? = some o → w.heap[b]? = some o) {n : String} {cs : Array Value} (h : W.var? Tryd.prog n = some cs) : w.var? Tryd.prog n = some cs := by
  unfold World.var? at h ⊢
  obtain ⟨g, h1, h2⟩ := Option.bind_eq_some_iff.1 h
  rw [h1]
  show (match w.heap[g]? with | some (.cells cs _ _) => some cs | _ => none) = _
  cases e : W.heap[g]? with
  | none => rw [e] at h2; cases h2
  | some o => rw [hw g o e]; rw [e] at h2; exact h2

theorem glob_of_laid {W : World} (h : laidMetH Tryd.prog Rows.patchTextsRow.laid W) : Glob fun b => W.heap[b]? := by
  intro w hw
  rw [MakeChecks.laidMetH_plain _ _ _ (by kernel_rfl)] at h
  have h3 : laidMet Tryd.prog (("strconv.ErrRange", .iface "*errors.errorString" (.ptr (.agg [.lit (.string [118, 97, 108, 117, 101, 32, 111, 117, 116, 32, 111, 102, 32, 114, 97, 110, 103, 101])]))) :: [("strconv.ErrSyntax", .iface "*errors.errorString" (.ptr (.agg [.lit (.string [105, 110, 118, 97, 108, 105, 100, 32, 115, 121, 110, 116, 97, 120])])))]) W := laidMet.tail (laidMet.tail (laidMet.tail h))
  obtain ⟨a3, s3, v3, _⟩ := laid_sentinel h3 (g := 3) (ti := 48) (by kernel_rfl) (by kernel_rfl) Tryd.underlying48 row_err Tryd.underlying114 Tryd.underlying116 rfl rfl Tryd.underlying9 (by kernel_rfl) (by kernel_rfl)
  obtain ⟨a4, s4, v4, _⟩ := laid_sentinel h3.tail (g := 2) (ti := 48) (by kernel_rfl) (by kernel_rfl) Tryd.underlying48 row_err Tryd.underlying114 Tryd.underlying116 rfl rfl Tryd.underlying9 (by kernel_rfl) (by kernel_rfl)
  refine ⟨?_, ⟨_, _, var_mono hw v4⟩, ⟨_, _, var_mono hw v3⟩⟩
  obtain ⟨ps, ⟨g0, t0, cs0, f0, p0, q0, hg0, ht0, hv0, hd0, ⟨g1, t1, cs1, f1, p1, q1, hg1, ht1, hv1, hd1, ⟨g2, t2, cs2, f2, p2, q2, hg2, ht2, hv2, hd2, _, _⟩, _⟩, _⟩, _⟩ := h
  have hg : Tryd.prog.globalNamed "internal/strconv.uint64pow10" = some 1 ∧ (Tryd.prog.globals[1]?).map (·.type) = some 92 := ⟨by kernel_rfl, by kernel_rfl⟩
  obtain rfl := Option.some.inj (hg.1.symm.trans hg2)
  obtain rfl := Option.some.inj (hg.2.symm.trans ht2)
  have e : (Rows.laid_internal_strconv_uint64pow10 : DataW Unit) = Lib.tabData .u64 Lib.pow10Tab := by kernel_rfl
  rw [e] at hd2
  unfold Lib.TabIs
  refine var_mono hw ?_
  rw [hv2, ← Lib.cells_of_tab (P := Tryd.prog) (t := 92) (e := 82) (n := 20) (by kernel_rfl) (by kernel_rfl) (by kernel_rfl) (by kernel_rfl) hd2]

theorem door_met (os : Os) (args : Array Value) : laidMetH Tryd.prog Rows.patchTextsRow.laid ((World.doorLaid Tryd.prog 4000 os).forCall (fun _ _ => 0) ⟨#[], args, []⟩).memory :=
  laidMetH_of_parts3 (fuel := 8) (laidMet_of_run' 8 (by kernel_rfl) (by kernel_rfl)) (by kernel_rfl) (by kernel_rfl)

theorem texts_lifted (os : Os) (started : os.Started) (H : Type) (enc : TypeId × Value → H) :
    ReturnsInHanded {} Tryd.checked os 3 .any (fun w args => (Rows.patchTextsSpec.pre enc Tryd.prog Tryd.f3 [] false w args ∧ laidMetH Tryd.prog Rows.patchTextsRow.laid w) ∧ sizedMet enc Tryd.prog Tryd.f3 (OpenSpec.ofChange Rows.patchTextsSpec) false w args)
      (Rows.patchTextsSpec.post enc Tryd.prog Tryd.f3 false true false false) := by
  refine returnsInHanded_of_change_and (C := Tryd.checked) (X := fun w _ => laidMetH Tryd.prog Rows.patchTextsRow.laid w) (fun _ _ _ hh h => h.of_heap hh) own started (by kernel_rfl) Tryd.func3
    (ChangeSpec.witness_shaped (enc := enc) (C := Tryd.checked) (os := os) (X := fun w _ => laidMetH Tryd.prog Rows.patchTextsRow.laid w) false (World.doorLaid Tryd.prog 4000 os) #[.agg #[.int .i64 0, .slice none 0 0], .string ⟨#[]⟩] 8 rfl (World.shaped_of_RefB (by kernel_rfl) (by kernel_rfl)) (by kernel_rfl) (by kernel_rfl) (by kernel_rfl) (door_met os _)) ?_
  intro W base args ds gs before hval hW hcnd hsz hL _
  have hWk := hW
  obtain ⟨p, q, ht, hg, rfl, hfr, _⟩ := hW
  obtain ⟨rfl, rfl⟩ := trodVars_none hg
  have hts : (Tryd.f3).params.toList = [24, 9] := by kernel_rfl
  rw [hts] at ht hsz
  have hsz' : (DataW.weightsEach Tryd.checked.prog [24, 9] (ds ++ [])).all (· ≤ reachBytes) = true := hsz
  rw [List.append_nil] at hsz'
  obtain ⟨xs, hx, hv⟩ := args_of_trod (r := .any) (b0 := base) [tyPatch, .str] [24, 9] args.toList ds p ht (fun j t v h1 h2 => hval j t v (by rw [← Array.getElem?_toList, hts]; exact h1) (by rw [← Array.getElem?_toList]; exact h2)) (by kernel_rfl)
    (fun n hn => by have := List.all_eq_true.1 hsz' n hn; simpa using this)
  have key : ∃ (l1 : ApiPatch) (l2 : ByteArray), xs = [.agg (ApiPatch.enc l1), astr l2] ∧ (l1.Changes.length ≤ big ∧ ∀ c ∈ l1.Changes, c.Lines.length ≤ big) := by
    simp only [Ty.haveArgs] at hx
    obtain ⟨c1, y1, rfl, h1, c2, y2, rfl, h2, rfl⟩ := hx
    obtain ⟨l1, rfl, k1⟩ := has_patch _ h1
    obtain ⟨l2, rfl, _⟩ := has_str _ h2
    exact ⟨l1, l2, rfl, k1⟩
  obtain ⟨l1, l2, rfl, k1⟩ := key
  have hc := styluslaw35_PatchTexts.ok (PatchTexts_w l1 l2 k1.1 k1.2 (Q := fun r => r = true) rfl) Hp.nil
  refine (law_calls (u := .bool true) hc (fun e h' q => by obtain ⟨r, rfl, _, rfl⟩ := q; rfl) hv (glob_of_laid hL)).mono fun e W' ⟨he, hbel⟩ => ?_
  obtain ⟨v, v', d, d', p1, p2, hargs, rfl, -, -, -⟩ := trodAll_two ht
  refine ⟨.bool true, he, [d, d'], [], _, [], p, [], hWk, trodAll_mk1 (shut_bool Tryd.underlying4 _), ?_, rfl, hbel.frame _, fun h => by cases h⟩
  rw [hts]
  exact trodAll_below laidOut hbel [24, 9] _ _ _ (by kernel_rfl) ht

theorem patchTexts_said : Rows.PatchTextsSaid :=
  OpenClaim.holds_of_wide 3 Tryd.f3 rfl rfl rfl rfl rfl rfl rfl ⟨rfl, rfl, rfl, rfl, rfl⟩ rfl rfl rfl rfl rfl (by kernel_rfl) Tryd.func3 (by kernel_rfl) (of_decide_eq_true (by kernel_rfl))
    (by unfold Func.isWrapper; first | (rw [if_pos (by decide +kernel)]; kernel_rfl) | (rw [if_neg (by decide +kernel)]; exact ⟨rfl, rfl⟩)) (fun os started H enc _ => texts_lifted os started H enc)

theorem patchTexts_holds : Rows.PatchTextsCardSaid :=
  Claim7.holds_tied_plain_at .later [] [.data, .data, .data, .sentinel, .sentinel] true (true, "13448df0bad5e244aa859a7b35d32509e15f8d09247cba68fdd4eb7b478c9b03") true
    patchTexts_said (fun _ h => by cases h) (by kernel_rfl) (fun _ h => by cases h) patchTexts_row_tie rfl ⟨rfl, rfl⟩ (by kernel_rfl) rfl
    (fun f fn hf hfn => by
      obtain rfl : f = 3 := Option.some.inj ((show Tryd.prog.funcNamed "stylus/styluslaw35.PatchTexts" = some 3 by kernel_rfl).symm.trans hf) |>.symm
      obtain rfl : fn = Tryd.f3 := (Option.some.inj (Tryd.func3.symm.trans hfn)).symm
      exact ⟨by kernel_rfl, fun j t ht => by
        have hts : (Tryd.f3).params = #[24, 9] := by kernel_rfl
        rw [hts] at ht
        rcases j with _ | _ | j <;> simp at ht
        · subst ht; exact (show Tryd.prog.wantsStandIn 24 = false by kernel_rfl)
        · subst ht; exact (show Tryd.prog.wantsStandIn 9 = false by kernel_rfl)⟩)
    (by kernel_rfl)
end Go.Proofs.YtggcmnoacplbkaaDoor
