/- Functions of the library, as the walks ask for them: strconv.Itoa, strings.Contains at one byte. -/
import Derived.Test.YtggcmnoacplbkaaDoorShelf
import Derived.Test.YtggcmnoacplbkaaDoorBld
import Derived.Test.YtggcmnoacplbkaaDoorBlw
namespace Go.Proofs.YtggcmnoacplbkaaDoor
open Go Go.RowKit Go.Proofs.YtggcmnoacplbkaaDoor.AM
set_option linter.unusedVariables false
set_option linter.unusedSimpArgs false

theorem calls_below {n : Nat} {args : List AV} {ρ : Type} {enc : ρ → AV} {Q : ρ → Prop} (r : ρ) (hq : Q r) (hc : callable Tryd.prog n) (H : ∀ (g : Gh) (h : Hp) (w : World) (vs : Array Value), VRs g args vs.toList → HR g h w → Calls Tryd.prog n vs w fun e w' => ∃ v, e = .returned v ∧ VR g (enc r) v ∧ Below w.heap.size w w') (h0 : Hp) : ACalls Tryd.prog n args h0 (Back h0 enc Q) :=
  ⟨hc, fun g w vs hv hh => (H g h0 w vs hv hh).mono fun e w' ⟨v, he, hx, hb⟩ => by
    subst he
    exact ⟨g, h0, .ret (enc r), Gh.le.refl g, hh.below hb, ⟨r, rfl, rfl, hq⟩, hx⟩⟩

/-- a number's decimal numeral -/
def itoaS (n : Int) : ByteArray := ⟨(Lib.itoa n).toArray⟩
def strconv_Itoa.w (n : Int) (Q : ByteArray → Prop) : Prop := I64 n ∧ Q (itoaS n)
theorem strconv_Itoa.ok {n : Int} {Q : ByteArray → Prop} (hm : strconv_Itoa.w n Q) (h0 : Hp) : ACalls Tryd.prog 15 [aint n] h0 (Back h0 (fun r => astr r) Q) := by
  obtain ⟨⟨n0, n1⟩, hq⟩ := hm
  refine calls_below (itoaS n) hq ⟨_, Tryd.func15, by kernel_rfl, by kernel_rfl⟩ (fun g h w vs hv hh => ?_) h0
  obtain ⟨v, hvs, hv⟩ : ∃ v, vs = #[v] ∧ VR g (aint n) v := by
    match e : vs.toList, hv with
    | [u], hv => exact ⟨u, by apply Array.ext'; rw [e], by simpa [VRs] using hv⟩
    | [], hv => simp [VRs] at hv
    | _ :: _ :: _, hv => simp [VRs] at hv
  simp only [aint, VR] at hv; subst hv; subst hvs
  refine (Tryd.strconv_Itoa n n0 n1 w (laid_pow10 (hh.gl w hh.fz))).mono ?_
  rintro e w' ⟨rfl, k, os, rfl⟩
  exact ⟨_, rfl, by simp only [astr, VR, itoaS], ⟨rfl, rfl, rfl, by simp [Sort.grow, World.drewN], fun i hi => by simp [Sort.grow, World.drewN, Array.getElem?_append, hi]⟩⟩

def oneByte (s : ByteArray) (c : UInt8) : Bool := decide (0 ≤ Lib.indexByte s.data.toList c)
def strings_Contains.w (s t : ByteArray) (Q : Bool → Prop) : Prop := ∃ c : UInt8, t = ⟨#[c]⟩ ∧ Q (oneByte s c)
theorem strings_Contains.ok {s t : ByteArray} {Q : Bool → Prop} (hm : strings_Contains.w s t Q) (h0 : Hp) : ACalls Tryd.prog 24 [astr s, astr t] h0 (Back h0 (fun r => abool r) Q) := by
  obtain ⟨c, rfl, hq⟩ := hm
  refine calls_below (oneByte s c) hq ⟨_, Tryd.func24, by kernel_rfl, by kernel_rfl⟩ (fun g h w vs hv hh => ?_) h0
  obtain ⟨u, v, hvs, hu, hv⟩ : ∃ u v, vs = #[u, v] ∧ VR g (astr s) u ∧ VR g (astr ⟨#[c]⟩) v := by
    match e : vs.toList, hv with
    | [u, v], hv => exact ⟨u, v, by apply Array.ext'; rw [e], by simpa [VRs] using hv⟩
    | [], hv => simp [VRs] at hv
    | [_], hv => simp [VRs] at hv
    | _ :: _ :: _ :: _, hv => simp [VRs] at hv
  simp only [astr, VR] at hu hv; subst hu; subst hv; subst hvs
  refine (Tryd.strings_Contains_one s c w).mono ?_
  rintro e w' ⟨rfl, rfl⟩
  exact ⟨_, rfl, by simp only [abool, VR, oneByte], Below.refl _ _⟩
end Go.Proofs.YtggcmnoacplbkaaDoor
