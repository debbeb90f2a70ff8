/-
  DERIVED. GIVEN WITH THE SEED: THE CARDS: each row of YtggcmnoacplbkaaDoorRows.lean that lists a variable, with what it lists TIED to the program's text (the seventh form; the later family's looks); each row that meets fmt, with fmt's text TOLD by the authors' own Lean function (tested against real Go, not proved from fmt's source: count such statements apart). THE CARD IS WHAT COUNTS. Prove the row's statement (the work); the ties are given (YtggcmnoacplbkaaDoorTie.lean); close each card by the builder's one call (the guide's Derived/Test/ToyasCard.lean, 'card_holds'). Laid BY PROGRAM, IN A SANDBOX (cutbox-door.mjs). By AI agents, Wed Nov 11 2026. No macro, syntax, notation, axiom, sorry.
-/
import Derived.Test.YtggcmnoacplbkaaDoorRows
import GoSem.ClaimSeven
namespace Go.Proofs.YtggcmnoacplbkaaDoor
namespace Rows

/-- THE TIED CARD OF 'styluslaw35.PatchTexts'. -/
def patchTextsCard : Claim7 := { stood := { row := patchTextsRow, standIns := [], harness := (true, "13448df0bad5e244aa859a7b35d32509e15f8d09247cba68fdd4eb7b478c9b03"), looks := true }, kinds := [], alts := [], laidByText := true, laidKinds := [.data, .data, .data, .sentinel, .sentinel], laidTests := true, laidLooks := .later }
def PatchTextsCardSaid : Prop := Claim7.holds Tryd.pinned (.plain (OpenSpec.ofChange patchTextsSpec)) patchTextsCard

/-- THE SECOND FORM's CARD OF 'styluslaw35.PatchTexts'. -/
def patchTextsUptoCard : Claim7 := { stood := { row := patchTextsUptoRow, standIns := [], harness := (true, "13448df0bad5e244aa859a7b35d32509e15f8d09247cba68fdd4eb7b478c9b03"), looks := true }, kinds := [], alts := [], laidByText := true, laidKinds := [.data, .data, .data, .sentinel, .sentinel], laidTests := true, laidLooks := .later }
def PatchTextsUptoCardSaid : Prop := Claim7.holds Tryd.pinned (.plain (OpenSpec.upto patchTextsSpec)) patchTextsUptoCard
end Rows
end Go.Proofs.YtggcmnoacplbkaaDoor
