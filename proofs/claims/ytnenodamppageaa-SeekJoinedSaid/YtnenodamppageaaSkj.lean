/- SeekJoined, the given row. -/
import Derived.Test.YtnenodamppageaaSkd
import Derived.Test.YtnenodamppageaaRow
import Derived.OpenShut
import Derived.ProofKit
namespace Go.Proofs.Ytnenodamppageaa
open Go Go.Proofs.Ytnenodamppageaa.AM Go.ChangeShapes Go.WideShapes Go.ChangeAt Go.RowKit
set_option maxRecDepth 100000
set_option linter.unusedVariables false

def tyTok : Ty := .struct [.int .i64, .int .u8, .int .i64]
theorem dec_list {α : Type} {ty : Ty} {e : α → List AV} {p : α → Prop} (hd : ∀ r, ty.has r → ∃ x, r = e x ∧ p x) : ∀ (rows : List (List AV)), (∀ r ∈ rows, ty.has r) → ∃ l : List α, rows = l.map e ∧ ∀ x ∈ l, p x
  | [], _ => ⟨[], rfl, by simp⟩
  | r :: rows, h => by
    obtain ⟨x, rfl, hx⟩ := hd r (h r (by simp))
    obtain ⟨l, rfl, hl⟩ := dec_list hd rows fun q hq => h q (by simp [hq])
    exact ⟨x :: l, rfl, by simpa using ⟨hx, hl⟩⟩
theorem has_tok (r : List AV) (h : tyTok.has r) : ∃ x : ApiTok, r = ApiTok.enc x ∧ Byte x.Ch := by
  simp only [tyTok, Ty.has, Ty.hasAll] at h
  obtain ⟨a, b, rfl, ⟨n1, rfl, _⟩, a2, b2, rfl, ⟨n2, rfl, w2⟩, a3, b3, rfl, ⟨n3, rfl, _⟩, rfl⟩ := h
  refine ⟨⟨n1, n2, n3⟩, rfl, ?_⟩
  simp only [Lit.wf] at w2
  simp only [Bool.and_eq_true, decide_eq_true_eq] at w2
  have e1 : IntKind.u8.min = 0 := by decide
  have e2 : IntKind.u8.max = 255 := by decide
  show 0 ≤ n2 ∧ n2 ≤ 255
  rw [e1, e2] at w2; omega
theorem has_toks (r : List AV) (h : (Ty.slice 3 24 tyTok).has r) : ∃ x : List ApiTok, r = [.isl 3 (x.map ApiTok.enc)] ∧ Toks x := by
  simp only [Ty.has] at h
  obtain ⟨rows, rfl, hb, _, hr⟩ := h
  obtain ⟨l, rfl, hl⟩ := dec_list has_tok rows hr
  exact ⟨l, rfl, hl⟩

theorem own : ownKnob Try.prog.godebug = none := by kernel_rfl
theorem laidOut : laidOutB Try.prog = true := by kernel_rfl

theorem lifted (os : Os) (started : os.Started) (H : Type) (enc : TypeId × Value → H) :
    ReturnsInHanded {} Try.checked os 4 .any (Rows.seekJoinedSpec.pre6 enc Try.prog Try.f4 Rows.seekJoinedRow.domain false) (Rows.seekJoinedSpec.post enc Try.prog Try.f4 false true false false) := by
  refine returnsInHanded_of_change_sized (C := Try.checked) own started (by kernel_rfl) Try.func4
    (ChangeSpec.witness6 (enc := enc) (C := Try.checked) false ⟨#[], #[.slice none 0 0, .slice none 0 0, .string ⟨#[]⟩], []⟩ 8 (by kernel_rfl) (by kernel_rfl) (by kernel_rfl) (by kernel_rfl)) ?_
  intro W base args ds gs before hval hW hcnd hsz _
  have hWk := hW
  obtain ⟨p, q, ht, hg, rfl, hfr, _⟩ := hW
  obtain ⟨rfl, rfl⟩ := trodVars_none hg
  have hts : (Try.f4).params.toList = [22, 22, 9] := by kernel_rfl
  rw [hts] at ht hsz
  have hsz' : (DataW.weightsEach Try.checked.prog [22, 22, 9] (ds ++ [])).all (· ≤ reachBytes) = true := hsz
  rw [List.append_nil] at hsz'
  obtain ⟨xs, hx, hv⟩ := args_of_trod (r := .any) (b0 := base) [.slice 3 24 tyTok, .slice 3 24 tyTok, .str] [22, 22, 9] args.toList ds p ht (fun j t v h1 h2 => hval j t v (by rw [← Array.getElem?_toList, hts]; exact h1) (by rw [← Array.getElem?_toList]; exact h2)) (by kernel_rfl)
    (fun n hn => by have := List.all_eq_true.1 hsz' n hn; simpa using this)
  have key : ∃ (l l' : List ApiTok) (s : ByteArray), xs = [.isl 3 (l.map ApiTok.enc), .isl 3 (l'.map ApiTok.enc), astr s] ∧ Toks l ∧ Toks l' := by
    simp only [Ty.haveArgs] at hx
    obtain ⟨c1, y1, rfl, h1, c2, y2, rfl, h2, c3, y3, rfl, h3, rfl⟩ := hx
    obtain ⟨l, rfl, k1⟩ := has_toks _ h1
    obtain ⟨l', rfl, k2⟩ := has_toks _ h2
    simp only [Ty.has] at h3
    obtain ⟨s, rfl, _⟩ := h3
    exact ⟨l, l', s, rfl, k1, k2⟩
  obtain ⟨l, l', s, rfl, k1, k2⟩ := key
  have hc := styluslaw33_SeekJoined.ok (SeekJoined_w l l' k1 k2 s) Hp.nil
  refine (law_calls (u := .bool true) hc (fun e h' q => by obtain ⟨r, rfl, _, rfl⟩ := q; rfl) hv (fun _ _ => trivial)).mono fun e W' ⟨he, hbel⟩ => ?_
  obtain ⟨v, v', v'', d, d', d'', p1, p2, p3, hargs, rfl, -, -, -, -⟩ := trodAll_three ht
  refine ⟨.bool true, he, [d, d', d''], [], _, [], p, [], hWk, trodAll_mk1 (shut_bool Try.underlying4 _), ?_, rfl, hbel.frame _, fun h => by cases h⟩
  rw [hts]
  exact trodAll_below laidOut hbel [22, 22, 9] _ _ _ (by kernel_rfl) ht

theorem seekJoined_holds : Rows.SeekJoinedSaid :=
  OpenClaim.holds_of_wide 4 Try.f4 rfl rfl rfl rfl rfl rfl rfl ⟨rfl, rfl, rfl, rfl, rfl⟩ rfl rfl rfl rfl rfl (by kernel_rfl) Try.func4 (by kernel_rfl) (of_decide_eq_true (by kernel_rfl))
    (by unfold Func.isWrapper; first | (rw [if_pos (by decide +kernel)]; kernel_rfl) | (rw [if_neg (by decide +kernel)]; exact ⟨rfl, rfl⟩)) (fun os started H enc _ => lifted os started H enc)
end Go.Proofs.Ytnenodamppageaa
