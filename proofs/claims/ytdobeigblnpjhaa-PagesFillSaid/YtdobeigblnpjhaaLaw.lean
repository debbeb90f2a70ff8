/- PagesFill: the statement. -/
import Derived.Test.YtdobeigblnpjhaaPuG
import Derived.Test.YtdobeigblnpjhaaRow
import Derived.OpenShut
import Derived.ShutString
namespace Go.Proofs.Ytdobeigblnpjhaa
open Go Go.Proofs.Ytdobeigblnpjhaa.AM Go.ChangeShapes Go.WideShapes Go.ChangeAt Go.RowKit
set_option maxRecDepth 100000

def tySpot : Ty := .struct [.int .i64, .int .u8, .int .i64, .int .i64]
def tyLine : Ty := .struct [.slice 4 32 tySpot, .int .i64, .int .i64]
def tyStrip : Ty := .struct [tyLine, .int .i64, .bool, .slice 3 40 tyLine]

theorem dec_list {α : Type} {ty : Ty} {e : α → List AV} {p : α → Prop} (hd : ∀ r, ty.has r → ∃ x, r = e x ∧ p x) : ∀ (rows : List (List AV)), (∀ r ∈ rows, ty.has r) → ∃ l : List α, rows = l.map e ∧ ∀ x ∈ l, p x
  | [], _ => ⟨[], rfl, by simp⟩
  | r :: rows, h => by
    obtain ⟨x, rfl, hx⟩ := hd r (h r (by simp))
    obtain ⟨l, rfl, hl⟩ := dec_list hd rows fun q hq => h q (by simp [hq])
    exact ⟨x :: l, rfl, by simpa using ⟨hx, hl⟩⟩

theorem has_spot (r : List AV) (h : tySpot.has r) : ∃ x : Spot, r = encSpot x ∧ True := by
  simp only [tySpot, Ty.has, Ty.hasAll] at h
  obtain ⟨a, b, rfl, ⟨n1, rfl, _⟩, a2, b2, rfl, ⟨n2, rfl, _⟩, a3, b3, rfl, ⟨n3, rfl, _⟩, a4, b4, rfl, ⟨n4, rfl, _⟩, rfl⟩ := h
  exact ⟨⟨n1, n2, n3, n4⟩, rfl, trivial⟩

theorem has_line (r : List AV) (h : tyLine.has r) : ∃ x : Line, r = encLine x ∧ LineOk x := by
  simp only [tyLine, Ty.has, Ty.hasAll] at h
  obtain ⟨a, b, rfl, ⟨rows, rfl, hb, _, hr⟩, a2, b2, rfl, ⟨n2, rfl, _⟩, a3, b3, rfl, ⟨n3, rfl, _⟩, rfl⟩ := h
  obtain ⟨l, rfl, _⟩ := dec_list has_spot rows hr
  rw [List.length_map] at hb
  exact ⟨⟨l, n2, n3⟩, rfl, Nat.le_trans hb (by decide)⟩

theorem has_strip (r : List AV) (h : tyStrip.has r) : ∃ x : Strip, r = encStrip x ∧ StripOk x := by
  unfold tyStrip at h
  simp only [Ty.has, Ty.hasAll] at h
  obtain ⟨a, b, rfl, ha, a2, b2, rfl, ⟨n2, rfl, _⟩, a3, b3, rfl, ⟨n3, rfl⟩, a4, b4, rfl, ⟨rows, rfl, hb, _, hr⟩, rfl⟩ := h
  obtain ⟨y, rfl, hy⟩ := has_line a ha
  obtain ⟨l, rfl, hl⟩ := dec_list has_line rows hr
  rw [List.length_map] at hb
  exact ⟨⟨y, n2, n3, l⟩, rfl, hy, Nat.le_trans hb (by decide), hl⟩

theorem own : ownKnob Try.prog.godebug = none := by kernel_rfl
theorem laidOut : laidOutB Try.prog = true := by kernel_rfl

theorem lifted (os : Os) (started : os.Started) (H : Type) (enc : TypeId × Value → H) :
    ReturnsInHanded {} Try.checked os 3 .any (Rows.pagesFillSpec.pre6 enc Try.prog Try.f3 Rows.pagesFillRow.domain false) (Rows.pagesFillSpec.post enc Try.prog Try.f3 false true false false) := by
  refine returnsInHanded_of_change_sized (C := Try.checked) own started (by kernel_rfl) Try.func3
    (ChangeSpec.witness6 (enc := enc) (C := Try.checked) false ⟨#[], #[.slice none 0 0, .int .i64 0], []⟩ 8 (by kernel_rfl) (by kernel_rfl) (by kernel_rfl) (by kernel_rfl)) ?_
  intro W base args ds gs before hval hW hcnd hsz _
  have hWk := hW
  obtain ⟨p, q, ht, hg, rfl, hfr, _⟩ := hW
  obtain ⟨rfl, rfl⟩ := trodVars_none hg
  have hts : (Try.f3).params.toList = [22, 3] := by kernel_rfl
  rw [hts] at ht hsz
  have hsz' : (DataW.weightsEach Try.checked.prog [22, 3] (ds ++ [])).all (· ≤ reachBytes) = true := hsz
  rw [List.append_nil] at hsz'
  obtain ⟨xs, hx, hv⟩ := args_of_trod (r := .any) (b0 := base) [.slice 6 80 tyStrip, .int .i64] [22, 3] args.toList ds p ht (fun j t v h1 h2 => hval j t v (by rw [← Array.getElem?_toList, hts]; exact h1) (by rw [← Array.getElem?_toList]; exact h2)) (by kernel_rfl)
    (fun n hn => by have := List.all_eq_true.1 hsz' n hn; simpa using this)
  simp only [Ty.haveArgs, Ty.has, Ty.arg] at hx
  obtain ⟨c1, y1, rfl, ⟨rows, rfl, hb, _, hr⟩, c2, y2, rfl, ⟨n, rfl, _⟩, rfl⟩ := hx
  obtain ⟨l, rfl, hl⟩ := dec_list has_strip rows hr
  rw [List.length_map] at hb
  have hlen : l.length * 80 ≤ 140737488355328 := Nat.le_trans hb (by decide)
  have hc := law_calls1 l n (by omega) (fun x hx => by have := (hl x hx).2.1; omega) hl
  refine (law_calls (u := .bool true) hc (fun e h' q => q) hv).mono fun e W' ⟨he, hbel⟩ => ?_
  obtain ⟨v, v', d, d', p1, p2, hargs, rfl, -, -, -⟩ := trodAll_two ht
  refine ⟨.bool true, he, [d, d'], [], _, [], p, [], hWk, trodAll_mk1 (shut_bool Try.underlying4 _), ?_, rfl, hbel.frame _, fun h => by cases h⟩
  rw [hts]
  exact trodAll_below laidOut hbel [22, 3] _ _ _ (by kernel_rfl) ht

theorem pagesFill_holds : Rows.PagesFillSaid :=
  OpenClaim.holds_of_wide 3 Try.f3 rfl rfl rfl rfl rfl rfl rfl ⟨rfl, rfl, rfl, rfl, rfl⟩ rfl rfl rfl rfl rfl (by kernel_rfl) Try.func3 (by kernel_rfl) (of_decide_eq_true (by kernel_rfl))
    (by unfold Func.isWrapper; first | (rw [if_pos (by decide +kernel)]; kernel_rfl) | (rw [if_neg (by decide +kernel)]; exact ⟨rfl, rfl⟩)) (fun os started H enc _ => lifted os started H enc)
end Go.Proofs.Ytdobeigblnpjhaa
