/-
  DERIVED. GIVEN WITH THE SEED: THE CARDS: each row of YtlnjajfagildnaaDoorRows.lean that lists a variable, with what it lists TIED to the program's text (the seventh form; the later family's looks); each row that meets fmt, with fmt's text TOLD by the authors' own Lean function (tested against real Go, not proved from fmt's source: count such statements apart). THE CARD IS WHAT COUNTS. Prove the row's statement (the work); the ties are given (YtlnjajfagildnaaDoorTie.lean); close each card by the builder's one call (the guide's Derived/Test/ToyasCard.lean, 'card_holds'). Laid BY PROGRAM, IN A SANDBOX (cutbox-door.mjs). By AI agents, Wed Nov 11 2026. No macro, syntax, notation, axiom, sorry.
-/
import Derived.Test.YtlnjajfagildnaaDoorRows
import GoSem.ClaimSeven
namespace Go.Proofs.YtlnjajfagildnaaDoor
namespace Rows

/-- THE TIED CARD OF 'styluslaw35.PatchDoes'. -/
def patchDoesCard : Claim7 := { stood := { row := patchDoesRow, standIns := [], harness := (true, "df8ceebe9d9a23ea88c717c15cc64d02697d196dafa21674b79fc0c9593fe653"), looks := false }, kinds := [], alts := [], laidByText := true, laidKinds := [.data, .data, .data], laidTests := true, laidLooks := .later }
def PatchDoesCardSaid : Prop := Claim7.holds Tryd.pinned (.plain (OpenSpec.ofChange patchDoesSpec)) patchDoesCard

/-- THE TIED CARD OF 'styluslaw35.PatchBack'. -/
def patchBackCard : Claim7 := { stood := { row := patchBackRow, standIns := [], harness := (true, "df8ceebe9d9a23ea88c717c15cc64d02697d196dafa21674b79fc0c9593fe653"), looks := false }, kinds := [], alts := [], laidByText := true, laidKinds := [.data, .data, .data], laidTests := true, laidLooks := .later }
def PatchBackCardSaid : Prop := Claim7.holds Tryd.pinned (.plain (OpenSpec.ofChange patchBackSpec)) patchBackCard

/-- THE SECOND FORM's CARD OF 'styluslaw35.PatchDoes'. -/
def patchDoesUptoCard : Claim7 := { stood := { row := patchDoesUptoRow, standIns := [], harness := (true, "df8ceebe9d9a23ea88c717c15cc64d02697d196dafa21674b79fc0c9593fe653"), looks := false }, kinds := [], alts := [], laidByText := true, laidKinds := [.data, .data, .data], laidTests := true, laidLooks := .later }
def PatchDoesUptoCardSaid : Prop := Claim7.holds Tryd.pinned (.plain (OpenSpec.upto patchDoesSpec)) patchDoesUptoCard

/-- THE SECOND FORM's CARD OF 'styluslaw35.PatchBack'. -/
def patchBackUptoCard : Claim7 := { stood := { row := patchBackUptoRow, standIns := [], harness := (true, "df8ceebe9d9a23ea88c717c15cc64d02697d196dafa21674b79fc0c9593fe653"), looks := false }, kinds := [], alts := [], laidByText := true, laidKinds := [.data, .data, .data], laidTests := true, laidLooks := .later }
def PatchBackUptoCardSaid : Prop := Claim7.holds Tryd.pinned (.plain (OpenSpec.upto patchBackSpec)) patchBackUptoCard
end Rows
end Go.Proofs.YtlnjajfagildnaaDoor
