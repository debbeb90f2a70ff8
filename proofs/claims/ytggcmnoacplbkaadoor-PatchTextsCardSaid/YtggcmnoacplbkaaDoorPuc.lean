/- The patch's functions, plainly: the chapter's examples. -/
import Derived.Test.YtggcmnoacplbkaaDoorPub
import Derived.KernelRfl
namespace Go.Proofs.YtggcmnoacplbkaaDoor
open Go Go.Proofs.YtggcmnoacplbkaaDoor.AM
set_option linter.unusedVariables false
set_option linter.unusedSimpArgs false
set_option maxRecDepth 20000

def pc : ApiPatch := ⟨3, [⟨2, [ByteArray.mk #[100]]⟩, ⟨3, [ByteArray.mk #[101]]⟩]⟩
def tx0 : ByteArray := ByteArray.mk #[112, 97, 103, 101, 115, 32, 51, 10]
def tx1 : ByteArray := ByteArray.mk #[112, 97, 103, 101, 115, 32, 51, 10, 112, 97, 103, 101, 32, 50, 32, 49, 10]
def tx2 : ByteArray := ByteArray.mk #[112, 97, 103, 101, 115, 32, 51, 10, 112, 97, 103, 101, 32, 50, 32, 49, 10, 62, 100, 10]
def tx3 : ByteArray := ByteArray.mk #[112, 97, 103, 101, 115, 32, 51, 10, 112, 97, 103, 101, 32, 50, 32, 49, 10, 62, 100, 10, 112, 97, 103, 101, 32, 51, 32, 49, 10]
def tx4 : ByteArray := ByteArray.mk #[112, 97, 103, 101, 115, 32, 51, 10, 112, 97, 103, 101, 32, 50, 32, 49, 10, 62, 100, 10, 112, 97, 103, 101, 32, 51, 32, 49, 10, 62, 101, 10]
theorem it1 : itoaS 1 = ByteArray.mk #[49] := by unfold itoaS Lib.itoa; rw [if_neg (by decide)]; rw [Lib.decDigits_one (by decide)]; rfl
theorem it2 : itoaS 2 = ByteArray.mk #[50] := by unfold itoaS Lib.itoa; rw [if_neg (by decide)]; rw [Lib.decDigits_one (by decide)]; rfl
theorem it3 : itoaS 3 = ByteArray.mk #[51] := by unfold itoaS Lib.itoa; rw [if_neg (by decide)]; rw [Lib.decDigits_one (by decide)]; rfl
theorem i1 : I64 1 := ⟨by decide, by decide⟩
theorem i2 : I64 2 := ⟨by decide, by decide⟩
theorem i3 : I64 3 := ⟨by decide, by decide⟩

theorem contF_c (x : ByteArray) (hx : oneByte x 10 = false) {Q : Bool → Prop} (h : Q false) : slices_ContainsFunc_string_string_i0.w [x] Q := by
  unfold slices_ContainsFunc_string_string_i0.w slices_IndexFunc_string_string_i0.w
  refine wfor (fun i => i) (fun n => (n : Int)) 1 (fun _ => True) (fun _ _ => rfl) rfl trivial ?_ ?_
  · intro n hn _ K hK
    obtain rfl : n = 0 := by omega
    try dsimp only
    rw [if_pos (by simp)]
    refine ⟨by decide, x, rfl, ⟨10, rfl, ?_⟩⟩
    rw [hx]; dsimp only
    rw [if_neg (by decide)]
    exact ⟨i1, hK trivial⟩
  · intro _ K
    try dsimp only
    rw [if_neg (by simp)]
    exact h

theorem right_c {Q : Bool → Prop} (h : Q true) : patch_right.w pc Q := by
  unfold patch_right.w
  refine wfor (fun s => s.2) (fun n => ((if n = 0 then 0 else if n = 1 then 2 else 3 : Int), (n : Int))) 2 (fun _ => True) (fun _ _ => rfl) rfl trivial ?_ ?_
  · intro n hn _ K hK
    replace hK := hK trivial
    obtain rfl | rfl : n = 0 ∨ n = 1 := by omega
    · try dsimp only
      rw [if_pos (by decide)]
      refine ⟨by decide, ⟨2, [ByteArray.mk #[100]]⟩, rfl, ?_⟩
      rw [if_neg (by decide), if_neg (by decide), if_neg (by decide)]
      refine contF_c _ (by decide) ?_
      rw [if_neg (by decide)]
      exact ⟨i1, hK⟩
    · try dsimp only
      rw [if_pos (by decide)]
      refine ⟨by decide, ⟨3, [ByteArray.mk #[101]]⟩, rfl, ?_⟩
      rw [if_neg (by decide), if_neg (by decide), if_neg (by decide)]
      refine contF_c _ (by decide) ?_
      rw [if_neg (by decide)]
      exact ⟨i2, hK⟩
  · intro _ K
    try dsimp only
    rw [if_neg (by decide), if_pos (by decide)]
    exact h

/-- one change's text -/
theorem inner_c (a b : ByteArray) (x : ByteArray) (hx : x.size ≤ 100) (hb : ((strInts a).length + (strInts (((ByteArray.mk #[62]) ++ x) ++ (ByteArray.mk #[10]))).length) * 1 ≤ 140737488355328) (e : strInts a ++ strInts (((ByteArray.mk #[62]) ++ x) ++ (ByteArray.mk #[10])) = strInts b)
    {F : List Int → Bool → Prop} (h : F (strInts b) true) {body : (List Int) × Bool × Int → ((List Int) × Bool × Int → Prop) → Prop}
    (hbody : ∀ s K, body s K = (if s.2.2 < (([x] : List ByteArray).length : Int) then
                    (0 ≤ s.2.2) ∧
                    ∃ v6 : ByteArray, ([x] : List ByteArray)[s.2.2.toNat]? = some v6 ∧
                    ((ByteArray.mk #[62]).size + v6.size ≤ 9223372036854775807) ∧
                    (((ByteArray.mk #[62]) ++ v6).size + (ByteArray.mk #[10]).size ≤ 9223372036854775807) ∧
                    strings_Builder_WriteString_i0.w (((ByteArray.mk #[62]) ++ v6) ++ (ByteArray.mk #[10])) s.2.1 s.1 (fun r7 v7 v8 =>
                      (I64 (s.2.2 + 1)) ∧
                      K (v8, v7, s.2.2 + 1))
                  else F s.1 s.2.1)) : wloop body (strInts a, true, 0) := by
  refine wfor (fun s => s.2.2) (fun n => (if n = 0 then strInts a else strInts b, true, (n : Int))) 1 (fun _ => True) (fun _ _ => rfl) rfl trivial ?_ ?_
  · intro n hn _ K hK
    replace hK := hK trivial
    obtain rfl : n = 0 := by omega
    rw [hbody]
    try dsimp only
    rw [if_pos (by simp)]
    have s1 : (ByteArray.mk #[62]).size = 1 := rfl
    have s2 : (ByteArray.mk #[10]).size = 1 := rfl
    refine ⟨by decide, x, rfl, by rw [s1]; omega, by rw [ByteArray.size_append, s1, s2]; omega, ?_⟩
    unfold strings_Builder_WriteString_i0.w
    refine ⟨hb, i1, ?_⟩
    rw [if_neg (by decide)] at hK
    rw [if_pos rfl, e]
    exact hK
  · intro _ K
    rw [hbody]
    try dsimp only
    rw [if_neg (by simp)]
    exact h

theorem Write_c {Q : ByteArray × Int → Prop} (h : Q (tx4, 0)) : patch_Write.w pc Q := by
  unfold patch_Write.w
  refine right_c ?_
  rw [if_neg (by decide)]
  refine ⟨i3, ?_⟩
  rw [show pc.Pages = 3 from rfl, it3]
  refine ⟨by decide, by decide, ?_⟩
  unfold strings_Builder_WriteString_i0.w
  refine ⟨by decide, ?_⟩
  refine wfor (fun s => s.2.2) (fun n => (if n = 0 then strInts tx0 else if n = 1 then strInts tx2 else strInts tx4, true, (n : Int))) 2 (fun _ => True) (fun _ _ => rfl) (by kernel_rfl) trivial ?_ ?_
  · intro n hn _ K hK
    replace hK := hK trivial
    obtain rfl | rfl : n = 0 ∨ n = 1 := by omega
    · try dsimp only
      rw [if_pos (by decide)]
      refine ⟨by decide, ⟨2, [ByteArray.mk #[100]]⟩, rfl, ByteArray.mk #[50], ⟨i2, it2⟩, by decide, by decide, ByteArray.mk #[49], ⟨i1, it1⟩, by decide, by decide, by decide, ?_⟩
      refine inner_c tx1 tx2 (ByteArray.mk #[100]) (by decide) (by decide) (by decide) (F := fun x y => I64 (0 + 1) ∧ K (x, y, 0 + 1)) ⟨i1, by simpa using hK⟩ (fun s K => rfl)
    · try dsimp only
      rw [if_pos (by decide)]
      refine ⟨by decide, ⟨3, [ByteArray.mk #[101]]⟩, rfl, ByteArray.mk #[51], ⟨i3, it3⟩, by decide, by decide, ByteArray.mk #[49], ⟨i1, it1⟩, by decide, by decide, by decide, ?_⟩
      refine inner_c tx3 tx4 (ByteArray.mk #[101]) (by decide) (by decide) (by decide) (F := fun x y => I64 (1 + 1) ∧ K (x, y, 1 + 1)) ⟨i2, by simpa using hK⟩ (fun s K => rfl)
  · intro _ K
    try dsimp only
    rw [if_neg (by decide)]
    exact ⟨tx4, rfl, by decide, by decide, h⟩

def exW : List (List ByteArray) := [[ByteArray.mk #[97], ByteArray.mk #[98]], [ByteArray.mk #[99]]]
def exN : List (List ByteArray) := [[ByteArray.mk #[97], ByteArray.mk #[98]], [ByteArray.mk #[100]], [ByteArray.mk #[101]]]
theorem ofP_ex : ofP exW exN = pc := by decide
end Go.Proofs.YtggcmnoacplbkaaDoor
