/- Pages: the data, and what the code computes, in plain Lean. -/
import Derived.Test.YtdobeigblnpjhaaAm0
namespace Go.Proofs.Ytdobeigblnpjhaa
open Go Go.Proofs.Ytdobeigblnpjhaa.AM
set_option linter.unusedVariables false
structure Spot where
  x : Int
  ch : Int
  what : Int
  tok : Int
  deriving DecidableEq
structure Line where
  spots : List Spot
  width : Int
  bits : Int
  deriving DecidableEq
structure Strip where
  line : Line
  keep : Int
  brk : Bool
  notes : List Line
  deriving DecidableEq
def encSpot (s : Spot) : List AV := [aint s.x, abyte s.ch, aint s.what, aint s.tok]
def encLine (l : Line) : List AV := [.isl 4 (l.spots.map encSpot), aint l.width, aint l.bits]
def encStrip (s : Strip) : List AV := [.isl 4 (s.line.spots.map encSpot), aint s.line.width, aint s.line.bits, aint s.keep, abool s.brk, .isl 3 (s.notes.map encLine)]

def notesN (l : List Strip) : Nat := (l.map (·.notes.length)).sum
def rule (l : List Strip) : Nat := if 0 < notesN l then 1 else 0
def high (l : List Strip) : Nat := l.length + notesN l + rule l

theorem notesN_take (l : List Strip) (i : Nat) (h : i < l.length) : notesN (l.take (i + 1)) = notesN (l.take i) + l[i].notes.length := by
  unfold notesN
  rw [List.take_succ_eq_append_getElem h, List.map_append, List.sum_append]
  simp
theorem notesN_le (l : List Strip) (i : Nat) : notesN (l.take i) ≤ notesN l := by
  unfold notesN
  rw [List.map_take]
  have := congrArg List.sum (List.take_append_drop i (l.map (·.notes.length)))
  rw [List.sum_append] at this
  omega

theorem rule_le (l : List Strip) : rule l ≤ 1 := by unfold rule; split <;> omega
theorem rule_take (l : List Strip) (i : Nat) (h : i < l.length) : rule (l.take (i + 1)) = if 0 < l[i].notes.length then 1 else rule (l.take i) := by
  unfold rule
  have := notesN_take l i h
  split <;> split <;> first | rfl | omega | (split <;> omega)

/-- Behind how many of the first n strips the last one stands that holds so; 0: none does. -/
def lastN (l : List Strip) (keep : Int) : Nat → Nat
  | 0 => 0
  | n + 1 => match l[n]? with
    | some s => if s.keep = keep then n + 1 else lastN l keep n
    | none => lastN l keep n
theorem lastN_le (l : List Strip) (keep : Int) : ∀ n, lastN l keep n ≤ n
  | 0 => Nat.le_refl _
  | n + 1 => by
    have := lastN_le l keep n
    simp only [lastN]; split
    · split <;> omega
    · omega
theorem lastN_yes {l : List Strip} {keep : Int} {n : Nat} (h : n < l.length) (hk : l[n].keep = keep) : lastN l keep (n + 1) = n + 1 := by
  simp [lastN, List.getElem?_eq_getElem h, hk]
theorem lastN_no {l : List Strip} {keep : Int} {n : Nat} (h : n < l.length) (hk : ¬ l[n].keep = keep) : lastN l keep (n + 1) = lastN l keep n := by
  simp [lastN, List.getElem?_eq_getElem h, hk]

def stay (l : List Strip) : Nat := if 0 < lastN l 0 l.length then lastN l 0 l.length else if 0 < lastN l 1 l.length then lastN l 1 l.length else l.length
theorem stay_le (l : List Strip) : stay l ≤ l.length := by
  have := lastN_le l 0 l.length
  have := lastN_le l 1 l.length
  unfold stay; split
  · assumption
  · split <;> omega
theorem stay_pos (l : List Strip) (h : 0 < l.length) : 0 < stay l := by unfold stay; split <;> (try split) <;> omega

/-- The first page's strips, of those behind n; whether that is all. -/
def firstN (l : List Strip) (H : Int) (n : Nat) : Nat × Bool :=
  if h : n < l.length then
    if l[n].brk = true then (n + 1, false)
    else if 0 < n ∧ H < high (l.take (n + 1)) then (stay (l.take n), false)
    else firstN l H (n + 1)
  else (l.length, true)
termination_by l.length - n

theorem firstN_le (l : List Strip) (H : Int) (n : Nat) : (firstN l H n).1 ≤ l.length := by
  induction hd : l.length - n generalizing n with
  | zero => rw [firstN, dif_neg (by omega)]; exact Nat.le_refl _
  | succ k ih =>
    rw [firstN, dif_pos (by omega)]
    split
    · simp; omega
    · split
      · have := stay_le (l.take n); simp at this ⊢; omega
      · exact ih _ (by omega)
theorem firstN_pos (l : List Strip) (H : Int) (n : Nat) (hl : 0 < l.length) : 0 < (firstN l H n).1 := by
  induction hd : l.length - n generalizing n with
  | zero => rw [firstN, dif_neg (by omega)]; exact hl
  | succ k ih =>
    rw [firstN, dif_pos (by omega)]
    split
    · simp
    · split
      · rename_i h _
        exact stay_pos _ (by simp; omega)
      · exact ih _ (by omega)
theorem firstN_more {l : List Strip} {H : Int} {n : Nat} (h : (firstN l H n).2 = false) : 0 < l.length := by
  by_cases hl : 0 < l.length
  · exact hl
  · rw [firstN, dif_neg (by omega)] at h; cases h

/-- The pages. -/
def fill (l : List Strip) (H : Int) : List (List Strip) :=
  match h : firstN l H 0 with
  | (n, true) => [l.take n]
  | (n, false) => l.take n :: fill (l.drop n) H
termination_by l.length
decreasing_by
  have h1 := firstN_more (l := l) (H := H) (n := 0) (by rw [h])
  have h2 := firstN_pos l H 0 h1
  rw [h] at h2
  simp at h2 ⊢; omega

theorem fill_all {l : List Strip} {H : Int} (h : (firstN l H 0).2 = true) : fill l H = [l.take (firstN l H 0).1] := by
  rw [fill]; split <;> rename_i e <;> simp [e] at h ⊢
theorem fill_cut {l : List Strip} {H : Int} (h : (firstN l H 0).2 = false) : fill l H = l.take (firstN l H 0).1 :: fill (l.drop (firstN l H 0).1) H := by
  rw [fill]; split <;> rename_i e <;> simp [e] at h ⊢
end Go.Proofs.Ytdobeigblnpjhaa
