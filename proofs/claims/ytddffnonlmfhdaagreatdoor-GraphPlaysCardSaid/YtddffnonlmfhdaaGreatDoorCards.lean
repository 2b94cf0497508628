/-
  DERIVED. GIVEN WITH THE SEED: THE CARDS: each row of YtddffnonlmfhdaaGreatDoorRows.lean that lists a variable, with what it lists TIED to the program's text (the seventh form; the later family's looks); each row that meets fmt, with fmt's text TOLD by the authors' own Lean function (tested against real Go, not proved from fmt's source: count such statements apart). THE CARD IS WHAT COUNTS. Prove the row's statement (the work); the ties are given (YtddffnonlmfhdaaGreatDoorTie.lean); close each card by the builder's one call (the guide's Derived/Test/ToyasCard.lean, 'card_holds'). Laid BY PROGRAM, IN A SANDBOX (cutbox-door.mjs). By AI agents, Wed Nov 11 2026. No macro, syntax, notation, axiom, sorry.
-/
import Derived.Test.YtddffnonlmfhdaaGreatDoorRows
import GoSem.ClaimSeven
namespace Go.Proofs.YtddffnonlmfhdaaGreatDoor
namespace Rows

/-- THE TIED CARD OF 'bywaylaw17.GraphPlays'. -/
def graphPlaysCard : Claim7 := { stood := { row := graphPlaysRow, standIns := [], harness := (true, "1d1693c02cbf8e68f69391c69707d3aa3b31fe4f57670c47b284af8b48341201"), looks := true }, kinds := [], alts := [], laidByText := true, laidKinds := [.data], laidTests := true, laidLooks := .later }
def GraphPlaysCardSaid : Prop := Claim7.holds Tryz.pinned (.plain (OpenSpec.ofChange graphPlaysSpec)) graphPlaysCard

/-- THE TIED CARD OF 'bywaylaw18.AzimovNone'. -/
def azimovNoneCard : Claim7 := { stood := { row := azimovNoneRow, standIns := [], harness := (true, "1d1693c02cbf8e68f69391c69707d3aa3b31fe4f57670c47b284af8b48341201"), looks := true }, kinds := [], alts := [], laidByText := true, laidKinds := [.data], laidTests := true, laidLooks := .later }
def AzimovNoneCardSaid : Prop := Claim7.holds Tryz.pinned (.plain (OpenSpec.ofChange azimovNoneSpec)) azimovNoneCard

/-- THE TIED CARD OF 'bywaylaw18.AzimovFacts'. -/
def azimovFactsCard : Claim7 := { stood := { row := azimovFactsRow, standIns := [], harness := (true, "1d1693c02cbf8e68f69391c69707d3aa3b31fe4f57670c47b284af8b48341201"), looks := true }, kinds := [], alts := [], laidByText := true, laidKinds := [.data], laidTests := true, laidLooks := .later }
def AzimovFactsCardSaid : Prop := Claim7.holds Tryz.pinned (.plain (OpenSpec.ofChange azimovFactsSpec)) azimovFactsCard

/-- THE TIED CARD OF 'bywaylaw18.AzimovOrder'. -/
def azimovOrderCard : Claim7 := { stood := { row := azimovOrderRow, standIns := [], harness := (true, "1d1693c02cbf8e68f69391c69707d3aa3b31fe4f57670c47b284af8b48341201"), looks := true }, kinds := [], alts := [], laidByText := true, laidKinds := [.data], laidTests := true, laidLooks := .later }
def AzimovOrderCardSaid : Prop := Claim7.holds Tryz.pinned (.plain (OpenSpec.ofChange azimovOrderSpec)) azimovOrderCard

/-- THE TIED CARD OF 'bywaylaw18.AzimovLeast'. -/
def azimovLeastCard : Claim7 := { stood := { row := azimovLeastRow, standIns := [], harness := (true, "1d1693c02cbf8e68f69391c69707d3aa3b31fe4f57670c47b284af8b48341201"), looks := true }, kinds := [], alts := [], laidByText := true, laidKinds := [.data], laidTests := true, laidLooks := .later }
def AzimovLeastCardSaid : Prop := Claim7.holds Tryz.pinned (.plain (OpenSpec.ofChange azimovLeastSpec)) azimovLeastCard

/-- THE TIED CARD OF 'bywaylaw18.AzimovMirror'. -/
def azimovMirrorCard : Claim7 := { stood := { row := azimovMirrorRow, standIns := [], harness := (true, "1d1693c02cbf8e68f69391c69707d3aa3b31fe4f57670c47b284af8b48341201"), looks := true }, kinds := [], alts := [], laidByText := true, laidKinds := [.data], laidTests := true, laidLooks := .later }
def AzimovMirrorCardSaid : Prop := Claim7.holds Tryz.pinned (.plain (OpenSpec.ofChange azimovMirrorSpec)) azimovMirrorCard

/-- THE SECOND FORM's CARD OF 'bywaylaw17.GraphPlays'. -/
def graphPlaysUptoCard : Claim7 := { stood := { row := graphPlaysUptoRow, standIns := [], harness := (true, "1d1693c02cbf8e68f69391c69707d3aa3b31fe4f57670c47b284af8b48341201"), looks := true }, kinds := [], alts := [], laidByText := true, laidKinds := [.data], laidTests := true, laidLooks := .later }
def GraphPlaysUptoCardSaid : Prop := Claim7.holds Tryz.pinned (.plain (OpenSpec.upto graphPlaysSpec)) graphPlaysUptoCard

/-- THE SECOND FORM's CARD OF 'bywaylaw18.AzimovNone'. -/
def azimovNoneUptoCard : Claim7 := { stood := { row := azimovNoneUptoRow, standIns := [], harness := (true, "1d1693c02cbf8e68f69391c69707d3aa3b31fe4f57670c47b284af8b48341201"), looks := true }, kinds := [], alts := [], laidByText := true, laidKinds := [.data], laidTests := true, laidLooks := .later }
def AzimovNoneUptoCardSaid : Prop := Claim7.holds Tryz.pinned (.plain (OpenSpec.upto azimovNoneSpec)) azimovNoneUptoCard

/-- THE SECOND FORM's CARD OF 'bywaylaw18.AzimovFacts'. -/
def azimovFactsUptoCard : Claim7 := { stood := { row := azimovFactsUptoRow, standIns := [], harness := (true, "1d1693c02cbf8e68f69391c69707d3aa3b31fe4f57670c47b284af8b48341201"), looks := true }, kinds := [], alts := [], laidByText := true, laidKinds := [.data], laidTests := true, laidLooks := .later }
def AzimovFactsUptoCardSaid : Prop := Claim7.holds Tryz.pinned (.plain (OpenSpec.upto azimovFactsSpec)) azimovFactsUptoCard

/-- THE SECOND FORM's CARD OF 'bywaylaw18.AzimovOrder'. -/
def azimovOrderUptoCard : Claim7 := { stood := { row := azimovOrderUptoRow, standIns := [], harness := (true, "1d1693c02cbf8e68f69391c69707d3aa3b31fe4f57670c47b284af8b48341201"), looks := true }, kinds := [], alts := [], laidByText := true, laidKinds := [.data], laidTests := true, laidLooks := .later }
def AzimovOrderUptoCardSaid : Prop := Claim7.holds Tryz.pinned (.plain (OpenSpec.upto azimovOrderSpec)) azimovOrderUptoCard

/-- THE SECOND FORM's CARD OF 'bywaylaw18.AzimovLeast'. -/
def azimovLeastUptoCard : Claim7 := { stood := { row := azimovLeastUptoRow, standIns := [], harness := (true, "1d1693c02cbf8e68f69391c69707d3aa3b31fe4f57670c47b284af8b48341201"), looks := true }, kinds := [], alts := [], laidByText := true, laidKinds := [.data], laidTests := true, laidLooks := .later }
def AzimovLeastUptoCardSaid : Prop := Claim7.holds Tryz.pinned (.plain (OpenSpec.upto azimovLeastSpec)) azimovLeastUptoCard

/-- THE SECOND FORM's CARD OF 'bywaylaw18.AzimovMirror'. -/
def azimovMirrorUptoCard : Claim7 := { stood := { row := azimovMirrorUptoRow, standIns := [], harness := (true, "1d1693c02cbf8e68f69391c69707d3aa3b31fe4f57670c47b284af8b48341201"), looks := true }, kinds := [], alts := [], laidByText := true, laidKinds := [.data], laidTests := true, laidLooks := .later }
def AzimovMirrorUptoCardSaid : Prop := Claim7.holds Tryz.pinned (.plain (OpenSpec.upto azimovMirrorSpec)) azimovMirrorUptoCard
end Rows
end Go.Proofs.YtddffnonlmfhdaaGreatDoor
