/-
  NARROWER THAN 'FOR EVERY INPUT', by the rows' own cells (each row's printed sentence says how): GraphPlays: laid · AzimovNone: laid · AzimovFacts: laid · AzimovOrder: laid · AzimovLeast: laid · AzimovMirror: laid.
  DERIVED. THE GIVEN ROWS OF THIS SEAT. 6 by the template 'for every input the law returns true; each argument reads behind the call as it read before'; 0 by the template 'total and deterministic' (their statements: YtddffnonlmfhdaaGreatDoorTotals.lean).
  GIVEN WITH THE SEED: the statements are not yours to turn. If you find one false, say at which input.
  Laid BY PROGRAM, IN A SANDBOX (cutbox-rows.mjs): the forced cells as the released guide's own fill.sh prints them over the translation 5f3ee5586055396b… (all of the seat's roots in one cut). By AI agents, Wed Nov 11 2026. No macro, syntax, notation, axiom, sorry.
-/
import Derived.Test.YtddffnonlmfhdaaGreatDoorChecked
import GoSem.Claim
import GoSem.ClaimJoined
import GoSem.ClaimMapViews
import Derived.JoinedTies
import Derived.KernelRfl
namespace Go.Proofs.YtddffnonlmfhdaaGreatDoor
/- THE CELL 'sum', in the pinned program and in every row, IS THE sha256 OF THE DUMP (.gsa) THAT YtddffnonlmfhdaaGreatDoorProg.lean LOADS. Nothing in Lean hashes anything: it is a label: what it is worth is what the hold of that sum in a sandbox is worth. -/
noncomputable def Tryz.pinned : Pinned := { name := "ytddffnonlmfhdaagreatdoor", sum := "5f3ee5586055396b3acab84df111617ccfe4213ac7b83c6107590db61c1c5773", checked := Tryz.checked }
namespace Rows
def none {H : Type} : Left H := { results := [], args := [] }

/- WHAT THE LISTED PACKAGE-LEVEL VARIABLES READ AS WHEN THE CALL BEGINS. Each datum BY PROGRAM (the guide's laid-datum.mjs) off the statement by which the dump's own 'gosem.cut.vars' lays the variable. In a bare row this is a premise. The card (YtddffnonlmfhdaaGreatDoorCards.lean) ties it to the program's text. -/
def laid_math_bits_deBruijn64tab {H : Type} : DataW H := .agg [.lit (.int .u8 0), .lit (.int .u8 1), .lit (.int .u8 56), .lit (.int .u8 2), .lit (.int .u8 57), .lit (.int .u8 49), .lit (.int .u8 28), .lit (.int .u8 3), .lit (.int .u8 61), .lit (.int .u8 58), .lit (.int .u8 42), .lit (.int .u8 50), .lit (.int .u8 38), .lit (.int .u8 29), .lit (.int .u8 17), .lit (.int .u8 4), .lit (.int .u8 62), .lit (.int .u8 47), .lit (.int .u8 59), .lit (.int .u8 36), .lit (.int .u8 45), .lit (.int .u8 43), .lit (.int .u8 51), .lit (.int .u8 22), .lit (.int .u8 53), .lit (.int .u8 39), .lit (.int .u8 33), .lit (.int .u8 30), .lit (.int .u8 24), .lit (.int .u8 18), .lit (.int .u8 12), .lit (.int .u8 5), .lit (.int .u8 63), .lit (.int .u8 55), .lit (.int .u8 48), .lit (.int .u8 27), .lit (.int .u8 60), .lit (.int .u8 41), .lit (.int .u8 37), .lit (.int .u8 16), .lit (.int .u8 46), .lit (.int .u8 35), .lit (.int .u8 44), .lit (.int .u8 21), .lit (.int .u8 52), .lit (.int .u8 32), .lit (.int .u8 23), .lit (.int .u8 11), .lit (.int .u8 54), .lit (.int .u8 26), .lit (.int .u8 40), .lit (.int .u8 15), .lit (.int .u8 34), .lit (.int .u8 20), .lit (.int .u8 31), .lit (.int .u8 10), .lit (.int .u8 25), .lit (.int .u8 14), .lit (.int .u8 19), .lit (.int .u8 9), .lit (.int .u8 13), .lit (.int .u8 8), .lit (.int .u8 7), .lit (.int .u8 6)]

/-- 'bywaylaw17.GraphPlays': WHATEVER THE INPUT: true; the input reads as it did. -/
def graphPlaysSpec : ChangeSpec := { name := "graphPlays", fn := fun _ => fun
  | [d] => { results := [.lit (.bool true)], args := [d] }
  | _ => none }
def graphPlaysRow : OpenClaim := { program := "ytddffnonlmfhdaagreatdoor", sum := "5f3ee5586055396b3acab84df111617ccfe4213ac7b83c6107590db61c1c5773", func := "byway/bywaylaw17.GraphPlays", spec := "graphPlays", inPlace := ["internal/bytealg.abigen_runtime_cmpstring", "internal/abi.NoEscape", "slices.overlaps[byway/api.Hop]", "maps.clone"], unfollowed := true, recurses := true, named := ["math/bits.deBruijn64tab"], apart := false, laid := [("math/bits.deBruijn64tab", laid_math_bits_deBruijn64tab)] }
def GraphPlaysSaid : Prop := graphPlaysRow.holds Tryz.pinned (OpenSpec.ofChange graphPlaysSpec)

/-- ITS FALSE NEIGHBOUR: 'it returns false'. Refute it at one input. -/
def graphPlaysWrong : ChangeSpec := { name := "graphPlays", fn := fun _ => fun
  | [d] => { results := [.lit (.bool false)], args := [d] }
  | _ => none }
def GraphPlaysWrongFalsely : Prop := graphPlaysRow.holds Tryz.pinned (OpenSpec.ofChange graphPlaysWrong)

/-- 'bywaylaw18.AzimovNone': WHATEVER THE INPUT: true; the input reads as it did. -/
def azimovNoneSpec : ChangeSpec := { name := "azimovNone", fn := fun _ => fun
  | [d1, d2, d3] => { results := [.lit (.bool true)], args := [d1, d2, d3] }
  | _ => none }
def azimovNoneRow : OpenClaim := { program := "ytddffnonlmfhdaagreatdoor", sum := "5f3ee5586055396b3acab84df111617ccfe4213ac7b83c6107590db61c1c5773", func := "byway/bywaylaw18.AzimovNone", spec := "azimovNone", inPlace := ["internal/bytealg.abigen_runtime_cmpstring", "internal/abi.NoEscape", "slices.overlaps[byway/api.Hop]"], unfollowed := true, recurses := true, named := ["math/bits.deBruijn64tab"], apart := false, laid := [("math/bits.deBruijn64tab", laid_math_bits_deBruijn64tab)] }
def AzimovNoneSaid : Prop := azimovNoneRow.holds Tryz.pinned (OpenSpec.ofChange azimovNoneSpec)

/-- ITS FALSE NEIGHBOUR: 'it returns false'. Refute it at one input. -/
def azimovNoneWrong : ChangeSpec := { name := "azimovNone", fn := fun _ => fun
  | [d1, d2, d3] => { results := [.lit (.bool false)], args := [d1, d2, d3] }
  | _ => none }
def AzimovNoneWrongFalsely : Prop := azimovNoneRow.holds Tryz.pinned (OpenSpec.ofChange azimovNoneWrong)

/-- 'bywaylaw18.AzimovFacts': WHATEVER THE INPUT: true; the input reads as it did. -/
def azimovFactsSpec : ChangeSpec := { name := "azimovFacts", fn := fun _ => fun
  | [d1, d2, d3, d4, d5] => { results := [.lit (.bool true)], args := [d1, d2, d3, d4, d5] }
  | _ => none }
def azimovFactsRow : OpenClaim := { program := "ytddffnonlmfhdaagreatdoor", sum := "5f3ee5586055396b3acab84df111617ccfe4213ac7b83c6107590db61c1c5773", func := "byway/bywaylaw18.AzimovFacts", spec := "azimovFacts", inPlace := ["internal/bytealg.abigen_runtime_cmpstring", "internal/abi.NoEscape", "slices.overlaps[byway/api.Hop]"], unfollowed := true, recurses := true, named := ["math/bits.deBruijn64tab"], apart := false, laid := [("math/bits.deBruijn64tab", laid_math_bits_deBruijn64tab)] }
def AzimovFactsSaid : Prop := azimovFactsRow.holds Tryz.pinned (OpenSpec.ofChange azimovFactsSpec)

/-- ITS FALSE NEIGHBOUR: 'it returns false'. Refute it at one input. -/
def azimovFactsWrong : ChangeSpec := { name := "azimovFacts", fn := fun _ => fun
  | [d1, d2, d3, d4, d5] => { results := [.lit (.bool false)], args := [d1, d2, d3, d4, d5] }
  | _ => none }
def AzimovFactsWrongFalsely : Prop := azimovFactsRow.holds Tryz.pinned (OpenSpec.ofChange azimovFactsWrong)

/-- 'bywaylaw18.AzimovOrder': WHATEVER THE INPUT: true; the input reads as it did. -/
def azimovOrderSpec : ChangeSpec := { name := "azimovOrder", fn := fun _ => fun
  | [d1, d2, d3, d4, d5] => { results := [.lit (.bool true)], args := [d1, d2, d3, d4, d5] }
  | _ => none }
def azimovOrderRow : OpenClaim := { program := "ytddffnonlmfhdaagreatdoor", sum := "5f3ee5586055396b3acab84df111617ccfe4213ac7b83c6107590db61c1c5773", func := "byway/bywaylaw18.AzimovOrder", spec := "azimovOrder", inPlace := ["internal/bytealg.abigen_runtime_cmpstring", "internal/abi.NoEscape", "slices.overlaps[byway/api.Hop]"], unfollowed := true, recurses := true, named := ["math/bits.deBruijn64tab"], apart := false, laid := [("math/bits.deBruijn64tab", laid_math_bits_deBruijn64tab)] }
def AzimovOrderSaid : Prop := azimovOrderRow.holds Tryz.pinned (OpenSpec.ofChange azimovOrderSpec)

/-- ITS FALSE NEIGHBOUR: 'it returns false'. Refute it at one input. -/
def azimovOrderWrong : ChangeSpec := { name := "azimovOrder", fn := fun _ => fun
  | [d1, d2, d3, d4, d5] => { results := [.lit (.bool false)], args := [d1, d2, d3, d4, d5] }
  | _ => none }
def AzimovOrderWrongFalsely : Prop := azimovOrderRow.holds Tryz.pinned (OpenSpec.ofChange azimovOrderWrong)

/-- 'bywaylaw18.AzimovLeast': WHATEVER THE INPUT: true; the input reads as it did. -/
def azimovLeastSpec : ChangeSpec := { name := "azimovLeast", fn := fun _ => fun
  | [d1, d2, d3] => { results := [.lit (.bool true)], args := [d1, d2, d3] }
  | _ => none }
def azimovLeastRow : OpenClaim := { program := "ytddffnonlmfhdaagreatdoor", sum := "5f3ee5586055396b3acab84df111617ccfe4213ac7b83c6107590db61c1c5773", func := "byway/bywaylaw18.AzimovLeast", spec := "azimovLeast", inPlace := ["internal/bytealg.abigen_runtime_cmpstring", "internal/abi.NoEscape", "slices.overlaps[byway/api.Hop]"], unfollowed := true, recurses := true, named := ["math/bits.deBruijn64tab"], apart := false, laid := [("math/bits.deBruijn64tab", laid_math_bits_deBruijn64tab)] }
def AzimovLeastSaid : Prop := azimovLeastRow.holds Tryz.pinned (OpenSpec.ofChange azimovLeastSpec)

/-- ITS FALSE NEIGHBOUR: 'it returns false'. Refute it at one input. -/
def azimovLeastWrong : ChangeSpec := { name := "azimovLeast", fn := fun _ => fun
  | [d1, d2, d3] => { results := [.lit (.bool false)], args := [d1, d2, d3] }
  | _ => none }
def AzimovLeastWrongFalsely : Prop := azimovLeastRow.holds Tryz.pinned (OpenSpec.ofChange azimovLeastWrong)

/-- 'bywaylaw18.AzimovMirror': WHATEVER THE INPUT: true; the input reads as it did. -/
def azimovMirrorSpec : ChangeSpec := { name := "azimovMirror", fn := fun _ => fun
  | [d1, d2, d3] => { results := [.lit (.bool true)], args := [d1, d2, d3] }
  | _ => none }
def azimovMirrorRow : OpenClaim := { program := "ytddffnonlmfhdaagreatdoor", sum := "5f3ee5586055396b3acab84df111617ccfe4213ac7b83c6107590db61c1c5773", func := "byway/bywaylaw18.AzimovMirror", spec := "azimovMirror", inPlace := ["internal/bytealg.abigen_runtime_cmpstring", "internal/abi.NoEscape", "slices.overlaps[byway/api.Hop]"], unfollowed := true, recurses := true, named := ["math/bits.deBruijn64tab"], apart := false, laid := [("math/bits.deBruijn64tab", laid_math_bits_deBruijn64tab)] }
def AzimovMirrorSaid : Prop := azimovMirrorRow.holds Tryz.pinned (OpenSpec.ofChange azimovMirrorSpec)

/-- ITS FALSE NEIGHBOUR: 'it returns false'. Refute it at one input. -/
def azimovMirrorWrong : ChangeSpec := { name := "azimovMirror", fn := fun _ => fun
  | [d1, d2, d3] => { results := [.lit (.bool false)], args := [d1, d2, d3] }
  | _ => none }
def AzimovMirrorWrongFalsely : Prop := azimovMirrorRow.holds Tryz.pinned (OpenSpec.ofChange azimovMirrorWrong)

/- THE SECOND FORM. 'bulk': how many values and letters a reading holds, each counted each time it is reached (what is shared counts as often as it is met; a slice's spare places count too). A statement '..UptoSaid' is the law's where the arguments, and the package variables that the reading takes, are together of bulk at most 1048576: NARROWER than '..Said'. Prove '..Said' where nothing that the law and all that it calls make is longer than what came in: it says more and counts as full. Else prove '..UptoSaid'. A law counts once. -/
mutual
def uptoBulk {H : Type} : DataW H → Nat
  | .lit (.string bytes) => bytes.length + 1
  | .lit _ => 1
  | .nil => 1
  | .ptr d => uptoBulk d + 1
  | .slice elems spare => uptoBulkAll elems + uptoBulkAll spare + 1
  | .agg parts => uptoBulkAll parts + 1
  | .iface _ d => uptoBulk d + 1
  | .map entries => uptoBulkEntries entries + 1
  | .held _ => 1
def uptoBulkAll {H : Type} : List (DataW H) → Nat
  | [] => 0
  | d :: r => uptoBulk d + uptoBulkAll r
def uptoBulkEntries {H : Type} : List (Lit × DataW H) → Nat
  | [] => 0
  | x :: r => uptoBulkEntry x + uptoBulkEntries r
def uptoBulkEntry {H : Type} : Lit × DataW H → Nat
  | (.string bytes, d) => bytes.length + uptoBulk d + 1
  | (_, d) => uptoBulk d + 1
 end
def uptoSmall : (H : Type) → List (DataW H) → Bool := fun _ ds => decide (uptoBulkAll ds ≤ 1048576)
def OpenSpec.upto (s : _root_.Go.ChangeSpec) : _root_.Go.OpenSpec := { _root_.Go.OpenSpec.ofChange s with cond := some uptoSmall }

/-- 'bywaylaw17.GraphPlays', WHERE WHAT IT READS IS OF BULK AT MOST 1048576: true; the input reads as it did. -/
def graphPlaysUptoRow : OpenClaim := { program := "ytddffnonlmfhdaagreatdoor", sum := "5f3ee5586055396b3acab84df111617ccfe4213ac7b83c6107590db61c1c5773", func := "byway/bywaylaw17.GraphPlays", spec := "graphPlays", inPlace := ["internal/bytealg.abigen_runtime_cmpstring", "internal/abi.NoEscape", "slices.overlaps[byway/api.Hop]", "maps.clone"], unfollowed := true, recurses := true, named := ["math/bits.deBruijn64tab"], apart := false, laid := [("math/bits.deBruijn64tab", laid_math_bits_deBruijn64tab)], narrowed := true }
def GraphPlaysUptoSaid : Prop := graphPlaysUptoRow.holds Tryz.pinned (OpenSpec.upto graphPlaysSpec)

/-- 'bywaylaw18.AzimovNone', WHERE WHAT IT READS IS OF BULK AT MOST 1048576: true; the input reads as it did. -/
def azimovNoneUptoRow : OpenClaim := { program := "ytddffnonlmfhdaagreatdoor", sum := "5f3ee5586055396b3acab84df111617ccfe4213ac7b83c6107590db61c1c5773", func := "byway/bywaylaw18.AzimovNone", spec := "azimovNone", inPlace := ["internal/bytealg.abigen_runtime_cmpstring", "internal/abi.NoEscape", "slices.overlaps[byway/api.Hop]"], unfollowed := true, recurses := true, named := ["math/bits.deBruijn64tab"], apart := false, laid := [("math/bits.deBruijn64tab", laid_math_bits_deBruijn64tab)], narrowed := true }
def AzimovNoneUptoSaid : Prop := azimovNoneUptoRow.holds Tryz.pinned (OpenSpec.upto azimovNoneSpec)

/-- 'bywaylaw18.AzimovFacts', WHERE WHAT IT READS IS OF BULK AT MOST 1048576: true; the input reads as it did. -/
def azimovFactsUptoRow : OpenClaim := { program := "ytddffnonlmfhdaagreatdoor", sum := "5f3ee5586055396b3acab84df111617ccfe4213ac7b83c6107590db61c1c5773", func := "byway/bywaylaw18.AzimovFacts", spec := "azimovFacts", inPlace := ["internal/bytealg.abigen_runtime_cmpstring", "internal/abi.NoEscape", "slices.overlaps[byway/api.Hop]"], unfollowed := true, recurses := true, named := ["math/bits.deBruijn64tab"], apart := false, laid := [("math/bits.deBruijn64tab", laid_math_bits_deBruijn64tab)], narrowed := true }
def AzimovFactsUptoSaid : Prop := azimovFactsUptoRow.holds Tryz.pinned (OpenSpec.upto azimovFactsSpec)

/-- 'bywaylaw18.AzimovOrder', WHERE WHAT IT READS IS OF BULK AT MOST 1048576: true; the input reads as it did. -/
def azimovOrderUptoRow : OpenClaim := { program := "ytddffnonlmfhdaagreatdoor", sum := "5f3ee5586055396b3acab84df111617ccfe4213ac7b83c6107590db61c1c5773", func := "byway/bywaylaw18.AzimovOrder", spec := "azimovOrder", inPlace := ["internal/bytealg.abigen_runtime_cmpstring", "internal/abi.NoEscape", "slices.overlaps[byway/api.Hop]"], unfollowed := true, recurses := true, named := ["math/bits.deBruijn64tab"], apart := false, laid := [("math/bits.deBruijn64tab", laid_math_bits_deBruijn64tab)], narrowed := true }
def AzimovOrderUptoSaid : Prop := azimovOrderUptoRow.holds Tryz.pinned (OpenSpec.upto azimovOrderSpec)

/-- 'bywaylaw18.AzimovLeast', WHERE WHAT IT READS IS OF BULK AT MOST 1048576: true; the input reads as it did. -/
def azimovLeastUptoRow : OpenClaim := { program := "ytddffnonlmfhdaagreatdoor", sum := "5f3ee5586055396b3acab84df111617ccfe4213ac7b83c6107590db61c1c5773", func := "byway/bywaylaw18.AzimovLeast", spec := "azimovLeast", inPlace := ["internal/bytealg.abigen_runtime_cmpstring", "internal/abi.NoEscape", "slices.overlaps[byway/api.Hop]"], unfollowed := true, recurses := true, named := ["math/bits.deBruijn64tab"], apart := false, laid := [("math/bits.deBruijn64tab", laid_math_bits_deBruijn64tab)], narrowed := true }
def AzimovLeastUptoSaid : Prop := azimovLeastUptoRow.holds Tryz.pinned (OpenSpec.upto azimovLeastSpec)

/-- 'bywaylaw18.AzimovMirror', WHERE WHAT IT READS IS OF BULK AT MOST 1048576: true; the input reads as it did. -/
def azimovMirrorUptoRow : OpenClaim := { program := "ytddffnonlmfhdaagreatdoor", sum := "5f3ee5586055396b3acab84df111617ccfe4213ac7b83c6107590db61c1c5773", func := "byway/bywaylaw18.AzimovMirror", spec := "azimovMirror", inPlace := ["internal/bytealg.abigen_runtime_cmpstring", "internal/abi.NoEscape", "slices.overlaps[byway/api.Hop]"], unfollowed := true, recurses := true, named := ["math/bits.deBruijn64tab"], apart := false, laid := [("math/bits.deBruijn64tab", laid_math_bits_deBruijn64tab)], narrowed := true }
def AzimovMirrorUptoSaid : Prop := azimovMirrorUptoRow.holds Tryz.pinned (OpenSpec.upto azimovMirrorSpec)

end Rows
end Go.Proofs.YtddffnonlmfhdaaGreatDoor
