/-
  DERIVED. GIVEN WITH THE SEED: THE CARDS: each row of YtnokckdkaifibaaGreatDoorRows.lean that lists a variable, with what it lists TIED to the program's text (the seventh form; the later family's looks); each row that meets fmt, with fmt's text TOLD by the authors' own Lean function (tested against real Go, not proved from fmt's source: count such statements apart). THE CARD IS WHAT COUNTS. Prove the row's statement (the work); the ties are given (YtnokckdkaifibaaGreatDoorTie.lean); close each card by the builder's one call (the guide's Derived/Test/ToyasCard.lean, 'card_holds'). Laid BY PROGRAM, IN A SANDBOX (cutbox-door.mjs). By AI agents, Wed Nov 11 2026. No macro, syntax, notation, axiom, sorry.
-/
import Derived.Test.YtnokckdkaifibaaGreatDoorRows
import GoSem.ClaimSeven
namespace Go.Proofs.YtnokckdkaifibaaGreatDoor
namespace Rows

/-- THE TIED CARD OF 'bywaylaw23.DeltaNone'. -/
def deltaNoneCard : Claim7 := { stood := { row := deltaNoneRow, standIns := [], harness := (true, "ca5611bc5c0f71630eb14fc67a079dd1eb66e09d457381b921b497b0bfb7995f"), looks := true }, kinds := [], alts := [], laidByText := true, laidKinds := [.data], laidTests := true, laidLooks := .later }
def DeltaNoneCardSaid : Prop := Claim7.holds Tryz.pinned (.plain (OpenSpec.ofChange deltaNoneSpec)) deltaNoneCard

/-- THE TIED CARD OF 'bywaylaw23.DeltaOrder'. -/
def deltaOrderCard : Claim7 := { stood := { row := deltaOrderRow, standIns := [], harness := (true, "ca5611bc5c0f71630eb14fc67a079dd1eb66e09d457381b921b497b0bfb7995f"), looks := true }, kinds := [], alts := [], laidByText := true, laidKinds := [.data], laidTests := true, laidLooks := .later }
def DeltaOrderCardSaid : Prop := Claim7.holds Tryz.pinned (.plain (OpenSpec.ofChange deltaOrderSpec)) deltaOrderCard

/-- THE TIED CARD OF 'bywaylaw23.DeltaKept'. -/
def deltaKeptCard : Claim7 := { stood := { row := deltaKeptRow, standIns := [], harness := (true, "ca5611bc5c0f71630eb14fc67a079dd1eb66e09d457381b921b497b0bfb7995f"), looks := true }, kinds := [], alts := [], laidByText := true, laidKinds := [.data], laidTests := true, laidLooks := .later }
def DeltaKeptCardSaid : Prop := Claim7.holds Tryz.pinned (.plain (OpenSpec.ofChange deltaKeptSpec)) deltaKeptCard

/-- THE TIED CARD OF 'bywaylaw23.DeltaPlays'. -/
def deltaPlaysCard : Claim7 := { stood := { row := deltaPlaysRow, standIns := [], harness := (true, "ca5611bc5c0f71630eb14fc67a079dd1eb66e09d457381b921b497b0bfb7995f"), looks := true }, kinds := [], alts := [], laidByText := true, laidKinds := [.data], laidTests := true, laidLooks := .later }
def DeltaPlaysCardSaid : Prop := Claim7.holds Tryz.pinned (.plain (OpenSpec.ofChange deltaPlaysSpec)) deltaPlaysCard

/-- THE SECOND FORM's CARD OF 'bywaylaw23.DeltaNone'. -/
def deltaNoneUptoCard : Claim7 := { stood := { row := deltaNoneUptoRow, standIns := [], harness := (true, "ca5611bc5c0f71630eb14fc67a079dd1eb66e09d457381b921b497b0bfb7995f"), looks := true }, kinds := [], alts := [], laidByText := true, laidKinds := [.data], laidTests := true, laidLooks := .later }
def DeltaNoneUptoCardSaid : Prop := Claim7.holds Tryz.pinned (.plain (OpenSpec.upto deltaNoneSpec)) deltaNoneUptoCard

/-- THE SECOND FORM's CARD OF 'bywaylaw23.DeltaOrder'. -/
def deltaOrderUptoCard : Claim7 := { stood := { row := deltaOrderUptoRow, standIns := [], harness := (true, "ca5611bc5c0f71630eb14fc67a079dd1eb66e09d457381b921b497b0bfb7995f"), looks := true }, kinds := [], alts := [], laidByText := true, laidKinds := [.data], laidTests := true, laidLooks := .later }
def DeltaOrderUptoCardSaid : Prop := Claim7.holds Tryz.pinned (.plain (OpenSpec.upto deltaOrderSpec)) deltaOrderUptoCard

/-- THE SECOND FORM's CARD OF 'bywaylaw23.DeltaKept'. -/
def deltaKeptUptoCard : Claim7 := { stood := { row := deltaKeptUptoRow, standIns := [], harness := (true, "ca5611bc5c0f71630eb14fc67a079dd1eb66e09d457381b921b497b0bfb7995f"), looks := true }, kinds := [], alts := [], laidByText := true, laidKinds := [.data], laidTests := true, laidLooks := .later }
def DeltaKeptUptoCardSaid : Prop := Claim7.holds Tryz.pinned (.plain (OpenSpec.upto deltaKeptSpec)) deltaKeptUptoCard

/-- THE SECOND FORM's CARD OF 'bywaylaw23.DeltaPlays'. -/
def deltaPlaysUptoCard : Claim7 := { stood := { row := deltaPlaysUptoRow, standIns := [], harness := (true, "ca5611bc5c0f71630eb14fc67a079dd1eb66e09d457381b921b497b0bfb7995f"), looks := true }, kinds := [], alts := [], laidByText := true, laidKinds := [.data], laidTests := true, laidLooks := .later }
def DeltaPlaysUptoCardSaid : Prop := Claim7.holds Tryz.pinned (.plain (OpenSpec.upto deltaPlaysSpec)) deltaPlaysUptoCard
end Rows
end Go.Proofs.YtnokckdkaifibaaGreatDoor
