/-
  DERIVED. GIVEN WITH THE SEED: THE CARDS: each row of YteffnejneoocgaaGreatDoorRows.lean that lists a variable, with what it lists TIED to the program's text (the seventh form; the later family's looks); each row that meets fmt, with fmt's text TOLD by the authors' own Lean function (tested against real Go, not proved from fmt's source: count such statements apart). THE CARD IS WHAT COUNTS. Prove the row's statement (the work); the ties are given (YteffnejneoocgaaGreatDoorTie.lean); close each card by the builder's one call (the guide's Derived/Test/ToyasCard.lean, 'card_holds'). Laid BY PROGRAM, IN A SANDBOX (cutbox-door.mjs). By AI agents, Wed Nov 11 2026. No macro, syntax, notation, axiom, sorry.
-/
import Derived.Test.YteffnejneoocgaaGreatDoorRows
import GoSem.ClaimSeven
namespace Go.Proofs.YteffnejneoocgaaGreatDoor
namespace Rows

/-- THE TIED CARD OF 'bywaylaw25.FarAll'. -/
def farAllCard : Claim7 := { stood := { row := farAllRow, standIns := [], harness := (true, "f92c10bab670a8d180a8f1dc8472ef58264f0d3fe99fa0e51cc94c10b9ddae73"), looks := true }, kinds := [], alts := [], laidByText := true, laidKinds := [.data], laidTests := true, laidLooks := .later }
def FarAllCardSaid : Prop := Claim7.holds Tryz.pinned (.plain (OpenSpec.ofChange farAllSpec)) farAllCard

/-- THE TIED CARD OF 'bywaylaw25.FarWithin'. -/
def farWithinCard : Claim7 := { stood := { row := farWithinRow, standIns := [], harness := (true, "f92c10bab670a8d180a8f1dc8472ef58264f0d3fe99fa0e51cc94c10b9ddae73"), looks := true }, kinds := [], alts := [], laidByText := true, laidKinds := [.data], laidTests := true, laidLooks := .later }
def FarWithinCardSaid : Prop := Claim7.holds Tryz.pinned (.plain (OpenSpec.ofChange farWithinSpec)) farWithinCard

/-- THE TIED CARD OF 'bywaylaw25.FarGoes'. -/
def farGoesCard : Claim7 := { stood := { row := farGoesRow, standIns := [], harness := (true, "f92c10bab670a8d180a8f1dc8472ef58264f0d3fe99fa0e51cc94c10b9ddae73"), looks := true }, kinds := [], alts := [], laidByText := true, laidKinds := [.data], laidTests := true, laidLooks := .later }
def FarGoesCardSaid : Prop := Claim7.holds Tryz.pinned (.plain (OpenSpec.ofChange farGoesSpec)) farGoesCard

/-- THE TIED CARD OF 'bywaylaw25.FarOf'. -/
def farOfCard : Claim7 := { stood := { row := farOfRow, standIns := [], harness := (true, "f92c10bab670a8d180a8f1dc8472ef58264f0d3fe99fa0e51cc94c10b9ddae73"), looks := true }, kinds := [], alts := [], laidByText := true, laidKinds := [.data], laidTests := true, laidLooks := .later }
def FarOfCardSaid : Prop := Claim7.holds Tryz.pinned (.plain (OpenSpec.ofChange farOfSpec)) farOfCard

/-- THE TIED CARD OF 'bywaylaw25.FarMore'. -/
def farMoreCard : Claim7 := { stood := { row := farMoreRow, standIns := [], harness := (true, "f92c10bab670a8d180a8f1dc8472ef58264f0d3fe99fa0e51cc94c10b9ddae73"), looks := true }, kinds := [], alts := [], laidByText := true, laidKinds := [.data], laidTests := true, laidLooks := .later }
def FarMoreCardSaid : Prop := Claim7.holds Tryz.pinned (.plain (OpenSpec.ofChange farMoreSpec)) farMoreCard

/-- THE SECOND FORM's CARD OF 'bywaylaw25.FarAll'. -/
def farAllUptoCard : Claim7 := { stood := { row := farAllUptoRow, standIns := [], harness := (true, "f92c10bab670a8d180a8f1dc8472ef58264f0d3fe99fa0e51cc94c10b9ddae73"), looks := true }, kinds := [], alts := [], laidByText := true, laidKinds := [.data], laidTests := true, laidLooks := .later }
def FarAllUptoCardSaid : Prop := Claim7.holds Tryz.pinned (.plain (OpenSpec.upto farAllSpec)) farAllUptoCard

/-- THE SECOND FORM's CARD OF 'bywaylaw25.FarWithin'. -/
def farWithinUptoCard : Claim7 := { stood := { row := farWithinUptoRow, standIns := [], harness := (true, "f92c10bab670a8d180a8f1dc8472ef58264f0d3fe99fa0e51cc94c10b9ddae73"), looks := true }, kinds := [], alts := [], laidByText := true, laidKinds := [.data], laidTests := true, laidLooks := .later }
def FarWithinUptoCardSaid : Prop := Claim7.holds Tryz.pinned (.plain (OpenSpec.upto farWithinSpec)) farWithinUptoCard

/-- THE SECOND FORM's CARD OF 'bywaylaw25.FarGoes'. -/
def farGoesUptoCard : Claim7 := { stood := { row := farGoesUptoRow, standIns := [], harness := (true, "f92c10bab670a8d180a8f1dc8472ef58264f0d3fe99fa0e51cc94c10b9ddae73"), looks := true }, kinds := [], alts := [], laidByText := true, laidKinds := [.data], laidTests := true, laidLooks := .later }
def FarGoesUptoCardSaid : Prop := Claim7.holds Tryz.pinned (.plain (OpenSpec.upto farGoesSpec)) farGoesUptoCard

/-- THE SECOND FORM's CARD OF 'bywaylaw25.FarOf'. -/
def farOfUptoCard : Claim7 := { stood := { row := farOfUptoRow, standIns := [], harness := (true, "f92c10bab670a8d180a8f1dc8472ef58264f0d3fe99fa0e51cc94c10b9ddae73"), looks := true }, kinds := [], alts := [], laidByText := true, laidKinds := [.data], laidTests := true, laidLooks := .later }
def FarOfUptoCardSaid : Prop := Claim7.holds Tryz.pinned (.plain (OpenSpec.upto farOfSpec)) farOfUptoCard

/-- THE SECOND FORM's CARD OF 'bywaylaw25.FarMore'. -/
def farMoreUptoCard : Claim7 := { stood := { row := farMoreUptoRow, standIns := [], harness := (true, "f92c10bab670a8d180a8f1dc8472ef58264f0d3fe99fa0e51cc94c10b9ddae73"), looks := true }, kinds := [], alts := [], laidByText := true, laidKinds := [.data], laidTests := true, laidLooks := .later }
def FarMoreUptoCardSaid : Prop := Claim7.holds Tryz.pinned (.plain (OpenSpec.upto farMoreSpec)) farMoreUptoCard
end Rows
end Go.Proofs.YteffnejneoocgaaGreatDoor
