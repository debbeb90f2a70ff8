/- Functions of the library, as the walks ask for them, more: strconv.Atoi, strings.Index at one byte. -/
import Derived.Test.YtggcmnoacplbkaaDoorLib
namespace Go.Proofs.YtggcmnoacplbkaaDoor
open Go Go.RowKit Go.Proofs.YtggcmnoacplbkaaDoor.AM
set_option linter.unusedVariables false
set_option linter.unusedSimpArgs false

theorem one_arg {g : Gh} {s : ByteArray} {vs : Array Value} (hv : VRs g [astr s] vs.toList) : vs = #[.string s] := by
  match e : vs.toList, hv with
  | [u], hv =>
    simp only [VRs, astr, VR, and_true] at hv
    subst hv
    apply Array.ext'; rw [e]
  | [], hv => simp [VRs] at hv
  | _ :: _ :: _, hv => simp [VRs] at hv
theorem two_args {g : Gh} {s t : ByteArray} {vs : Array Value} (hv : VRs g [astr s, astr t] vs.toList) : vs = #[.string s, .string t] := by
  match e : vs.toList, hv with
  | [u, v], hv =>
    simp only [VRs, astr, VR, and_true] at hv
    obtain ⟨rfl, rfl⟩ := hv
    apply Array.ext'; rw [e]
  | [], hv => simp [VRs] at hv
  | [_], hv => simp [VRs] at hv
  | _ :: _ :: _ :: _, hv => simp [VRs] at hv

/-- the first place of a byte in a text, or -1 -/
def indexB (s : ByteArray) (c : UInt8) : Int := Lib.indexByte s.data.toList c
def internal_stringslite_Index.w (s t : ByteArray) (Q : Int → Prop) : Prop := ∃ c : UInt8, t = ⟨#[c]⟩ ∧ Q (indexB s c)
theorem internal_stringslite_Index.ok {s t : ByteArray} {Q : Int → Prop} (hm : internal_stringslite_Index.w s t Q) (h0 : Hp) : ACalls Tryd.prog 38 [astr s, astr t] h0 (Back h0 (fun r => aint r) Q) := by
  obtain ⟨c, rfl, hq⟩ := hm
  refine calls_below (indexB s c) hq ⟨_, Tryd.func38, by kernel_rfl, by kernel_rfl⟩ (fun g h w vs hv hh => ?_) h0
  obtain rfl := two_args hv
  refine (Tryd.stringslite_Index_one s c w).mono ?_
  rintro e w' ⟨rfl, rfl⟩
  exact ⟨_, rfl, by simp only [aint, VR, indexB], Below.refl _ _⟩

/-- how strconv.Atoi ends: the number, is there an error? -/
def atoiS (s : ByteArray) : Int × Bool := match Lib.atoiAll s.data.toList with
  | .ok v => (v, false)
  | .range => (Lib.atoiSat s.data.toList, true)
  | _ => (0, true)
def strconv_Atoi.w (s : ByteArray) (Q : Int × Bool → Prop) : Prop := s.size ≤ 281474976710656 ∧ Q (atoiS s)
theorem strconv_Atoi.ok {s : ByteArray} {Q : Int × Bool → Prop} (hm : strconv_Atoi.w s Q) (h0 : Hp) : ACalls Tryd.prog 35 [astr s] h0 (Back h0 (fun r => .tup [aint r.1, eface 100 r.2]) Q) := by
  obtain ⟨hs, hq⟩ := hm
  refine calls_below (atoiS s) hq ⟨_, Tryd.func35, by kernel_rfl, by kernel_rfl⟩ (fun g h w vs hv hh => ?_) h0
  obtain rfl := one_arg hv
  cases e : Lib.atoiAll s.data.toList
  · rename_i v
    refine (Tryd.strconv_Atoi_ok s (by omega) v e w).mono ?_
    rintro e' w' ⟨rfl, hw⟩
    refine ⟨_, rfl, ?_, ?_⟩
    · simp only [atoiS, e, VR, aint, eface, Bool.false_eq_true, if_false]
      exact ⟨_, rfl, by simp [VRs, VR]⟩
    · rcases hw with rfl | ⟨t, rfl⟩
      · exact Below.refl _ _
      · exact Lib.bytesWorld_below _ _ _
  · obtain ⟨tp, p, hvar⟩ := laid_ErrSyntax (hh.gl w hh.fz)
    refine (Any.strconv_Atoi_syntax_var Tryd.laysC172 s hs e tp p w hvar).mono ?_
    rintro e' w' ⟨N, rfl, _, _, hb⟩
    refine ⟨_, rfl, ?_, hb⟩
    simp only [atoiS, e, VR, aint, eface, if_true]
    exact ⟨_, rfl, by simp only [VRs, VR]; exact ⟨trivial, ⟨_, rfl, trivial⟩, trivial⟩⟩
  · obtain ⟨tp, p, hvar⟩ := laid_ErrRange (hh.gl w hh.fz)
    refine (Any.strconv_Atoi_range_var Tryd.laysC172 s hs e tp p w hvar).mono ?_
    rintro e' w' ⟨N, rfl, _, _, hb⟩
    refine ⟨_, rfl, ?_, hb⟩
    simp only [atoiS, e, VR, aint, eface, if_true]
    exact ⟨_, rfl, by simp only [VRs, VR]; exact ⟨trivial, ⟨_, rfl, trivial⟩, trivial⟩⟩
end Go.Proofs.YtggcmnoacplbkaaDoor
