/-
  DERIVED. GIVEN WITH THE SEED: THE CARDS: each row of YtpkhmfedaaoalaaGreatDoorRows.lean that lists a variable, with what it lists TIED to the program's text (the seventh form; the later family's looks); each row that meets fmt, with fmt's text TOLD by the authors' own Lean function (tested against real Go, not proved from fmt's source: count such statements apart). THE CARD IS WHAT COUNTS. Prove the row's statement (the work); the ties are given (YtpkhmfedaaoalaaGreatDoorTie.lean); close each card by the builder's one call (the guide's Derived/Test/ToyasCard.lean, 'card_holds'). Laid BY PROGRAM, IN A SANDBOX (cutbox-door.mjs). By AI agents, Wed Nov 11 2026. No macro, syntax, notation, axiom, sorry.
-/
import Derived.Test.YtpkhmfedaaoalaaGreatDoorRows
import GoSem.ClaimSeven
namespace Go.Proofs.YtpkhmfedaaoalaaGreatDoor
namespace Rows

/-- THE TIED CARD OF 'styluslaw18.ItemsTell'. -/
def itemsTellCard : Claim7 := { stood := { row := itemsTellRow, standIns := [], harness := (true, "976f92be899c5034f00bb1acf0fef8497a90cbc955ec1ea394f01cb5e53af34b"), looks := false }, kinds := [], alts := [], laidByText := true, laidKinds := [.data, .pinned], laidTests := true, laidLooks := .later }
def ItemsTellCardSaid : Prop := Claim7.holds Tryz.pinned (.plain (OpenSpec.ofChange itemsTellSpec)) itemsTellCard

/-- THE TIED CARD OF 'styluslaw18.ItemsOnce'. -/
def itemsOnceCard : Claim7 := { stood := { row := itemsOnceRow, standIns := [], harness := (true, "976f92be899c5034f00bb1acf0fef8497a90cbc955ec1ea394f01cb5e53af34b"), looks := false }, kinds := [], alts := [], laidByText := true, laidKinds := [.data, .pinned], laidTests := true, laidLooks := .later }
def ItemsOnceCardSaid : Prop := Claim7.holds Tryz.pinned (.plain (OpenSpec.ofChange itemsOnceSpec)) itemsOnceCard

/-- THE TIED CARD OF 'styluslaw18.ItemsGlues'. -/
def itemsGluesCard : Claim7 := { stood := { row := itemsGluesRow, standIns := [], harness := (true, "976f92be899c5034f00bb1acf0fef8497a90cbc955ec1ea394f01cb5e53af34b"), looks := false }, kinds := [], alts := [], laidByText := true, laidKinds := [.data, .pinned], laidTests := true, laidLooks := .later }
def ItemsGluesCardSaid : Prop := Claim7.holds Tryz.pinned (.plain (OpenSpec.ofChange itemsGluesSpec)) itemsGluesCard

/-- THE SECOND FORM's CARD OF 'styluslaw18.ItemsTell'. -/
def itemsTellUptoCard : Claim7 := { stood := { row := itemsTellUptoRow, standIns := [], harness := (true, "976f92be899c5034f00bb1acf0fef8497a90cbc955ec1ea394f01cb5e53af34b"), looks := false }, kinds := [], alts := [], laidByText := true, laidKinds := [.data, .pinned], laidTests := true, laidLooks := .later }
def ItemsTellUptoCardSaid : Prop := Claim7.holds Tryz.pinned (.plain (OpenSpec.upto itemsTellSpec)) itemsTellUptoCard

/-- THE SECOND FORM's CARD OF 'styluslaw18.ItemsOnce'. -/
def itemsOnceUptoCard : Claim7 := { stood := { row := itemsOnceUptoRow, standIns := [], harness := (true, "976f92be899c5034f00bb1acf0fef8497a90cbc955ec1ea394f01cb5e53af34b"), looks := false }, kinds := [], alts := [], laidByText := true, laidKinds := [.data, .pinned], laidTests := true, laidLooks := .later }
def ItemsOnceUptoCardSaid : Prop := Claim7.holds Tryz.pinned (.plain (OpenSpec.upto itemsOnceSpec)) itemsOnceUptoCard

/-- THE SECOND FORM's CARD OF 'styluslaw18.ItemsGlues'. -/
def itemsGluesUptoCard : Claim7 := { stood := { row := itemsGluesUptoRow, standIns := [], harness := (true, "976f92be899c5034f00bb1acf0fef8497a90cbc955ec1ea394f01cb5e53af34b"), looks := false }, kinds := [], alts := [], laidByText := true, laidKinds := [.data, .pinned], laidTests := true, laidLooks := .later }
def ItemsGluesUptoCardSaid : Prop := Claim7.holds Tryz.pinned (.plain (OpenSpec.upto itemsGluesSpec)) itemsGluesUptoCard
end Rows
end Go.Proofs.YtpkhmfedaaoalaaGreatDoor
