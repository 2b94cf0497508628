/-
  DERIVED. GIVEN WITH THE SEED: THE CARDS: each row of YtlgpjgplgpgkiaaGreatDoorRows.lean that lists a variable, with what it lists TIED to the program's text (the seventh form; the later family's looks); each row that meets fmt, with fmt's text TOLD by the authors' own Lean function (tested against real Go, not proved from fmt's source: count such statements apart). THE CARD IS WHAT COUNTS. Prove the row's statement (the work); the ties are given (YtlgpjgplgpgkiaaGreatDoorTie.lean); close each card by the builder's one call (the guide's Derived/Test/ToyasCard.lean, 'card_holds'). Laid BY PROGRAM, IN A SANDBOX (cutbox-door.mjs). By AI agents, Wed Nov 11 2026. No macro, syntax, notation, axiom, sorry.
-/
import Derived.Test.YtlgpjgplgpgkiaaGreatDoorRows
import GoSem.ClaimSeven
namespace Go.Proofs.YtlgpjgplgpgkiaaGreatDoor
namespace Rows

/-- THE TIED CARD OF 'bywaylaw22.SppfChecks'. -/
def sppfChecksCard : Claim7 := { stood := { row := sppfChecksRow, standIns := [], harness := (true, "3c582051a1939231f669d24be4d53a91c329726c292a246a97f2e5423ab9ca6e"), looks := true }, kinds := [], alts := [], laidByText := true, laidKinds := [.data], laidTests := true, laidLooks := .later }
def SppfChecksCardSaid : Prop := Claim7.holds Tryz.pinned (.plain (OpenSpec.ofChange sppfChecksSpec)) sppfChecksCard

/-- THE TIED CARD OF 'bywaylaw22.SppfFinds'. -/
def sppfFindsCard : Claim7 := { stood := { row := sppfFindsRow, standIns := [], harness := (true, "3c582051a1939231f669d24be4d53a91c329726c292a246a97f2e5423ab9ca6e"), looks := true }, kinds := [], alts := [], laidByText := true, laidKinds := [.data], laidTests := true, laidLooks := .later }
def SppfFindsCardSaid : Prop := Claim7.holds Tryz.pinned (.plain (OpenSpec.ofChange sppfFindsSpec)) sppfFindsCard

/-- THE TIED CARD OF 'bywaylaw17.GraphEnds'. -/
def graphEndsCard : Claim7 := { stood := { row := graphEndsRow, standIns := [], harness := (true, "3c582051a1939231f669d24be4d53a91c329726c292a246a97f2e5423ab9ca6e"), looks := true }, kinds := [], alts := [], laidByText := true, laidKinds := [.data], laidTests := true, laidLooks := .later }
def GraphEndsCardSaid : Prop := Claim7.holds Tryz.pinned (.plain (OpenSpec.ofChange graphEndsSpec)) graphEndsCard

/-- THE TIED CARD OF 'bywaylaw17.GraphPlays'. -/
def graphPlaysCard : Claim7 := { stood := { row := graphPlaysRow, standIns := [], harness := (true, "3c582051a1939231f669d24be4d53a91c329726c292a246a97f2e5423ab9ca6e"), looks := true }, kinds := [], alts := [], laidByText := true, laidKinds := [.data], laidTests := true, laidLooks := .later }
def GraphPlaysCardSaid : Prop := Claim7.holds Tryz.pinned (.plain (OpenSpec.ofChange graphPlaysSpec)) graphPlaysCard

/-- THE SECOND FORM's CARD OF 'bywaylaw22.SppfChecks'. -/
def sppfChecksUptoCard : Claim7 := { stood := { row := sppfChecksUptoRow, standIns := [], harness := (true, "3c582051a1939231f669d24be4d53a91c329726c292a246a97f2e5423ab9ca6e"), looks := true }, kinds := [], alts := [], laidByText := true, laidKinds := [.data], laidTests := true, laidLooks := .later }
def SppfChecksUptoCardSaid : Prop := Claim7.holds Tryz.pinned (.plain (OpenSpec.upto sppfChecksSpec)) sppfChecksUptoCard

/-- THE SECOND FORM's CARD OF 'bywaylaw22.SppfFinds'. -/
def sppfFindsUptoCard : Claim7 := { stood := { row := sppfFindsUptoRow, standIns := [], harness := (true, "3c582051a1939231f669d24be4d53a91c329726c292a246a97f2e5423ab9ca6e"), looks := true }, kinds := [], alts := [], laidByText := true, laidKinds := [.data], laidTests := true, laidLooks := .later }
def SppfFindsUptoCardSaid : Prop := Claim7.holds Tryz.pinned (.plain (OpenSpec.upto sppfFindsSpec)) sppfFindsUptoCard

/-- THE SECOND FORM's CARD OF 'bywaylaw17.GraphEnds'. -/
def graphEndsUptoCard : Claim7 := { stood := { row := graphEndsUptoRow, standIns := [], harness := (true, "3c582051a1939231f669d24be4d53a91c329726c292a246a97f2e5423ab9ca6e"), looks := true }, kinds := [], alts := [], laidByText := true, laidKinds := [.data], laidTests := true, laidLooks := .later }
def GraphEndsUptoCardSaid : Prop := Claim7.holds Tryz.pinned (.plain (OpenSpec.upto graphEndsSpec)) graphEndsUptoCard

/-- THE SECOND FORM's CARD OF 'bywaylaw17.GraphPlays'. -/
def graphPlaysUptoCard : Claim7 := { stood := { row := graphPlaysUptoRow, standIns := [], harness := (true, "3c582051a1939231f669d24be4d53a91c329726c292a246a97f2e5423ab9ca6e"), looks := true }, kinds := [], alts := [], laidByText := true, laidKinds := [.data], laidTests := true, laidLooks := .later }
def GraphPlaysUptoCardSaid : Prop := Claim7.holds Tryz.pinned (.plain (OpenSpec.upto graphPlaysSpec)) graphPlaysUptoCard
end Rows
end Go.Proofs.YtlgpjgplgpgkiaaGreatDoor
