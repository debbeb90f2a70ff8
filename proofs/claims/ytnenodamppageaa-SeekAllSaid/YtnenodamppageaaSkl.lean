/- SeekAll, the given row. -/
import Derived.Test.YtnenodamppageaaSke
import Derived.Test.YtnenodamppageaaRow
import Derived.OpenShut
import Derived.ProofKit
namespace Go.Proofs.Ytnenodamppageaa
open Go Go.Proofs.Ytnenodamppageaa.AM Go.ChangeShapes Go.WideShapes Go.ChangeAt Go.RowKit
set_option maxRecDepth 100000
set_option linter.unusedVariables false

def tyTok : Ty := .struct [.int .i64, .int .u8, .int .i64]
theorem dec_list {α : Type} {ty : Ty} {e : α → List AV} {p : α → Prop} (hd : ∀ r, ty.has r → ∃ x, r = e x ∧ p x) : ∀ (rows : List (List AV)), (∀ r ∈ rows, ty.has r) → ∃ l : List α, rows = l.map e ∧ ∀ x ∈ l, p x
  | [], _ => ⟨[], rfl, by simp⟩
  | r :: rows, h => by
    obtain ⟨x, rfl, hx⟩ := hd r (h r (by simp))
    obtain ⟨l, rfl, hl⟩ := dec_list hd rows fun q hq => h q (by simp [hq])
    exact ⟨x :: l, rfl, by simpa using ⟨hx, hl⟩⟩
theorem has_tok (r : List AV) (h : tyTok.has r) : ∃ x : ApiTok, r = ApiTok.enc x ∧ Byte x.Ch := by
  simp only [tyTok, Ty.has, Ty.hasAll] at h
  obtain ⟨a, b, rfl, ⟨n1, rfl, _⟩, a2, b2, rfl, ⟨n2, rfl, w2⟩, a3, b3, rfl, ⟨n3, rfl, _⟩, rfl⟩ := h
  refine ⟨⟨n1, n2, n3⟩, rfl, ?_⟩
  simp only [Lit.wf] at w2
  simp only [Bool.and_eq_true, decide_eq_true_eq] at w2
  have e1 : IntKind.u8.min = 0 := by decide
  have e2 : IntKind.u8.max = 255 := by decide
  show 0 ≤ n2 ∧ n2 ≤ 255
  rw [e1, e2] at w2; omega
theorem has_toks (r : List AV) (h : (Ty.slice 3 24 tyTok).has r) : ∃ x : List ApiTok, r = [.isl 3 (x.map ApiTok.enc)] ∧ Toks x := by
  simp only [Ty.has] at h
  obtain ⟨rows, rfl, hb, _, hr⟩ := h
  obtain ⟨l, rfl, hl⟩ := dec_list has_tok rows hr
  exact ⟨l, rfl, hl⟩

theorem own : ownKnob Try.prog.godebug = none := by kernel_rfl
theorem laidOut : laidOutB Try.prog = true := by kernel_rfl

theorem lifted (os : Os) (started : os.Started) (H : Type) (enc : TypeId × Value → H) :
    ReturnsInHanded {} Try.checked os 5 .any (Rows.seekAllSpec.pre6 enc Try.prog Try.f5 Rows.seekAllRow.domain false) (Rows.seekAllSpec.post enc Try.prog Try.f5 false true false false) := by
  refine returnsInHanded_of_change_sized (C := Try.checked) own started (by kernel_rfl) Try.func5
    (ChangeSpec.witness6 (enc := enc) (C := Try.checked) false ⟨#[], #[.slice none 0 0], []⟩ 8 (by kernel_rfl) (by kernel_rfl) (by kernel_rfl) (by kernel_rfl)) ?_
  intro W base args ds gs before hval hW hcnd hsz _
  have hWk := hW
  obtain ⟨p, q, ht, hg, rfl, hfr, _⟩ := hW
  obtain ⟨rfl, rfl⟩ := trodVars_none hg
  have hts : (Try.f5).params.toList = [22] := by kernel_rfl
  rw [hts] at ht hsz
  have hsz' : (DataW.weightsEach Try.checked.prog [22] (ds ++ [])).all (· ≤ reachBytes) = true := hsz
  rw [List.append_nil] at hsz'
  obtain ⟨xs, hx, hv⟩ := args_of_trod (r := .any) (b0 := base) [.slice 3 24 tyTok] [22] args.toList ds p ht (fun j t v h1 h2 => hval j t v (by rw [← Array.getElem?_toList, hts]; exact h1) (by rw [← Array.getElem?_toList]; exact h2)) (by kernel_rfl)
    (fun n hn => by have := List.all_eq_true.1 hsz' n hn; simpa using this)
  have key : ∃ (l : List ApiTok), xs = [.isl 3 (l.map ApiTok.enc)] ∧ Toks l := by
    simp only [Ty.haveArgs] at hx
    obtain ⟨c1, y1, rfl, h1, rfl⟩ := hx
    obtain ⟨l, rfl, k1⟩ := has_toks _ h1
    exact ⟨l, rfl, k1⟩
  obtain ⟨l, rfl, k1⟩ := key
  have hc := styluslaw33_SeekAll.ok (SeekAll_w l k1) Hp.nil
  refine (law_calls (u := .bool true) hc (fun e h' q => by obtain ⟨r, rfl, _, rfl⟩ := q; rfl) hv (fun _ _ => trivial)).mono fun e W' ⟨he, hbel⟩ => ?_
  obtain ⟨v, d, hargs, rfl, -⟩ := trodAll_one ht
  refine ⟨.bool true, he, [d], [], _, [], p, [], hWk, trodAll_mk1 (shut_bool Try.underlying4 _), ?_, rfl, hbel.frame _, fun h => by cases h⟩
  rw [hts]
  exact trodAll_below laidOut hbel [22] _ _ _ (by kernel_rfl) ht

theorem seekAll_holds : Rows.SeekAllSaid :=
  OpenClaim.holds_of_wide 5 Try.f5 rfl rfl rfl rfl rfl rfl rfl ⟨rfl, rfl, rfl, rfl, rfl⟩ rfl rfl rfl rfl rfl (by kernel_rfl) Try.func5 (by kernel_rfl) (of_decide_eq_true (by kernel_rfl))
    (by unfold Func.isWrapper; first | (rw [if_pos (by decide +kernel)]; kernel_rfl) | (rw [if_neg (by decide +kernel)]; exact ⟨rfl, rfl⟩)) (fun os started H enc _ => lifted os started H enc)
end Go.Proofs.Ytnenodamppageaa
