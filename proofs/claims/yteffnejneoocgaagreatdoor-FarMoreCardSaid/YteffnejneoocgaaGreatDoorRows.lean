/-
  NARROWER THAN 'FOR EVERY INPUT', by the rows' own cells (each row's printed sentence says how): FarAll: laid · FarWithin: laid · FarGoes: laid · FarOf: laid · FarMore: laid.
  DERIVED. THE GIVEN ROWS OF THIS SEAT. 5 by the template 'for every input the law returns true; each argument reads behind the call as it read before'; 0 by the template 'total and deterministic' (their statements: YteffnejneoocgaaGreatDoorTotals.lean).
  GIVEN WITH THE SEED: the statements are not yours to turn. If you find one false, say at which input.
  Laid BY PROGRAM, IN A SANDBOX (cutbox-rows.mjs): the forced cells as the released guide's own fill.sh prints them over the translation f99b2b98ed79f4d9… (all of the seat's roots in one cut). By AI agents, Wed Nov 11 2026. No macro, syntax, notation, axiom, sorry.
-/
import Derived.Test.YteffnejneoocgaaGreatDoorChecked
import GoSem.Claim
import GoSem.ClaimJoined
import GoSem.ClaimMapViews
import Derived.JoinedTies
import Derived.KernelRfl
namespace Go.Proofs.YteffnejneoocgaaGreatDoor
/- THE CELL 'sum', in the pinned program and in every row, IS THE sha256 OF THE DUMP (.gsa) THAT YteffnejneoocgaaGreatDoorProg.lean LOADS. Nothing in Lean hashes anything: it is a label: what it is worth is what the hold of that sum in a sandbox is worth. -/
noncomputable def Tryz.pinned : Pinned := { name := "yteffnejneoocgaagreatdoor", sum := "f99b2b98ed79f4d9709c1e87c4a32cdf1914ae5d8825cb5f70670232139e8687", checked := Tryz.checked }
namespace Rows
def none {H : Type} : Left H := { results := [], args := [] }

/- WHAT THE LISTED PACKAGE-LEVEL VARIABLES READ AS WHEN THE CALL BEGINS. Each datum BY PROGRAM (the guide's laid-datum.mjs) off the statement by which the dump's own 'gosem.cut.vars' lays the variable. In a bare row this is a premise. The card (YteffnejneoocgaaGreatDoorCards.lean) ties it to the program's text. -/
def laid_math_bits_deBruijn64tab {H : Type} : DataW H := .agg [.lit (.int .u8 0), .lit (.int .u8 1), .lit (.int .u8 56), .lit (.int .u8 2), .lit (.int .u8 57), .lit (.int .u8 49), .lit (.int .u8 28), .lit (.int .u8 3), .lit (.int .u8 61), .lit (.int .u8 58), .lit (.int .u8 42), .lit (.int .u8 50), .lit (.int .u8 38), .lit (.int .u8 29), .lit (.int .u8 17), .lit (.int .u8 4), .lit (.int .u8 62), .lit (.int .u8 47), .lit (.int .u8 59), .lit (.int .u8 36), .lit (.int .u8 45), .lit (.int .u8 43), .lit (.int .u8 51), .lit (.int .u8 22), .lit (.int .u8 53), .lit (.int .u8 39), .lit (.int .u8 33), .lit (.int .u8 30), .lit (.int .u8 24), .lit (.int .u8 18), .lit (.int .u8 12), .lit (.int .u8 5), .lit (.int .u8 63), .lit (.int .u8 55), .lit (.int .u8 48), .lit (.int .u8 27), .lit (.int .u8 60), .lit (.int .u8 41), .lit (.int .u8 37), .lit (.int .u8 16), .lit (.int .u8 46), .lit (.int .u8 35), .lit (.int .u8 44), .lit (.int .u8 21), .lit (.int .u8 52), .lit (.int .u8 32), .lit (.int .u8 23), .lit (.int .u8 11), .lit (.int .u8 54), .lit (.int .u8 26), .lit (.int .u8 40), .lit (.int .u8 15), .lit (.int .u8 34), .lit (.int .u8 20), .lit (.int .u8 31), .lit (.int .u8 10), .lit (.int .u8 25), .lit (.int .u8 14), .lit (.int .u8 19), .lit (.int .u8 9), .lit (.int .u8 13), .lit (.int .u8 8), .lit (.int .u8 7), .lit (.int .u8 6)]

/-- 'bywaylaw25.FarAll': WHATEVER THE INPUT: true; the input reads as it did. -/
def farAllSpec : ChangeSpec := { name := "farAll", fn := fun _ => fun
  | [d1, d2] => { results := [.lit (.bool true)], args := [d1, d2] }
  | _ => none }
def farAllRow : OpenClaim := { program := "yteffnejneoocgaagreatdoor", sum := "f99b2b98ed79f4d9709c1e87c4a32cdf1914ae5d8825cb5f70670232139e8687", func := "byway/bywaylaw25.FarAll", spec := "farAll", inPlace := ["internal/bytealg.abigen_runtime_cmpstring", "internal/abi.NoEscape", "slices.overlaps[byway/api.Hop]"], unfollowed := true, recurses := true, named := ["math/bits.deBruijn64tab"], plainKeys := false, apart := false, laid := [("math/bits.deBruijn64tab", laid_math_bits_deBruijn64tab)] }
def FarAllSaid : Prop := farAllRow.holds Tryz.pinned (OpenSpec.ofChange farAllSpec)

/-- ITS FALSE NEIGHBOUR: 'it returns false'. Refute it at one input. -/
def farAllWrong : ChangeSpec := { name := "farAll", fn := fun _ => fun
  | [d1, d2] => { results := [.lit (.bool false)], args := [d1, d2] }
  | _ => none }
def FarAllWrongFalsely : Prop := farAllRow.holds Tryz.pinned (OpenSpec.ofChange farAllWrong)

/-- 'bywaylaw25.FarWithin': WHATEVER THE INPUT: true; the input reads as it did. -/
def farWithinSpec : ChangeSpec := { name := "farWithin", fn := fun _ => fun
  | [d1, d2, d3] => { results := [.lit (.bool true)], args := [d1, d2, d3] }
  | _ => none }
def farWithinRow : OpenClaim := { program := "yteffnejneoocgaagreatdoor", sum := "f99b2b98ed79f4d9709c1e87c4a32cdf1914ae5d8825cb5f70670232139e8687", func := "byway/bywaylaw25.FarWithin", spec := "farWithin", inPlace := ["internal/bytealg.abigen_runtime_cmpstring", "internal/abi.NoEscape", "slices.overlaps[byway/api.Hop]"], unfollowed := true, recurses := true, named := ["math/bits.deBruijn64tab"], plainKeys := false, apart := false, laid := [("math/bits.deBruijn64tab", laid_math_bits_deBruijn64tab)] }
def FarWithinSaid : Prop := farWithinRow.holds Tryz.pinned (OpenSpec.ofChange farWithinSpec)

/-- ITS FALSE NEIGHBOUR: 'it returns false'. Refute it at one input. -/
def farWithinWrong : ChangeSpec := { name := "farWithin", fn := fun _ => fun
  | [d1, d2, d3] => { results := [.lit (.bool false)], args := [d1, d2, d3] }
  | _ => none }
def FarWithinWrongFalsely : Prop := farWithinRow.holds Tryz.pinned (OpenSpec.ofChange farWithinWrong)

/-- 'bywaylaw25.FarGoes': WHATEVER THE INPUT: true; the input reads as it did. -/
def farGoesSpec : ChangeSpec := { name := "farGoes", fn := fun _ => fun
  | [d] => { results := [.lit (.bool true)], args := [d] }
  | _ => none }
def farGoesRow : OpenClaim := { program := "yteffnejneoocgaagreatdoor", sum := "f99b2b98ed79f4d9709c1e87c4a32cdf1914ae5d8825cb5f70670232139e8687", func := "byway/bywaylaw25.FarGoes", spec := "farGoes", inPlace := ["internal/bytealg.abigen_runtime_cmpstring", "internal/abi.NoEscape", "slices.overlaps[byway/api.Hop]"], unfollowed := true, recurses := true, named := ["math/bits.deBruijn64tab"], plainKeys := false, apart := false, laid := [("math/bits.deBruijn64tab", laid_math_bits_deBruijn64tab)] }
def FarGoesSaid : Prop := farGoesRow.holds Tryz.pinned (OpenSpec.ofChange farGoesSpec)

/-- ITS FALSE NEIGHBOUR: 'it returns false'. Refute it at one input. -/
def farGoesWrong : ChangeSpec := { name := "farGoes", fn := fun _ => fun
  | [d] => { results := [.lit (.bool false)], args := [d] }
  | _ => none }
def FarGoesWrongFalsely : Prop := farGoesRow.holds Tryz.pinned (OpenSpec.ofChange farGoesWrong)

/-- 'bywaylaw25.FarOf': WHATEVER THE INPUT: true; the input reads as it did. -/
def farOfSpec : ChangeSpec := { name := "farOf", fn := fun _ => fun
  | [d] => { results := [.lit (.bool true)], args := [d] }
  | _ => none }
def farOfRow : OpenClaim := { program := "yteffnejneoocgaagreatdoor", sum := "f99b2b98ed79f4d9709c1e87c4a32cdf1914ae5d8825cb5f70670232139e8687", func := "byway/bywaylaw25.FarOf", spec := "farOf", inPlace := ["internal/bytealg.abigen_runtime_cmpstring", "internal/abi.NoEscape", "slices.overlaps[byway/api.Hop]"], unfollowed := true, recurses := true, named := ["math/bits.deBruijn64tab"], plainKeys := false, apart := false, laid := [("math/bits.deBruijn64tab", laid_math_bits_deBruijn64tab)] }
def FarOfSaid : Prop := farOfRow.holds Tryz.pinned (OpenSpec.ofChange farOfSpec)

/-- ITS FALSE NEIGHBOUR: 'it returns false'. Refute it at one input. -/
def farOfWrong : ChangeSpec := { name := "farOf", fn := fun _ => fun
  | [d] => { results := [.lit (.bool false)], args := [d] }
  | _ => none }
def FarOfWrongFalsely : Prop := farOfRow.holds Tryz.pinned (OpenSpec.ofChange farOfWrong)

/-- 'bywaylaw25.FarMore': WHATEVER THE INPUT: true; the input reads as it did. -/
def farMoreSpec : ChangeSpec := { name := "farMore", fn := fun _ => fun
  | [d1, d2, d3, d4] => { results := [.lit (.bool true)], args := [d1, d2, d3, d4] }
  | _ => none }
def farMoreRow : OpenClaim := { program := "yteffnejneoocgaagreatdoor", sum := "f99b2b98ed79f4d9709c1e87c4a32cdf1914ae5d8825cb5f70670232139e8687", func := "byway/bywaylaw25.FarMore", spec := "farMore", inPlace := ["internal/bytealg.abigen_runtime_cmpstring", "internal/abi.NoEscape", "slices.overlaps[byway/api.Hop]"], unfollowed := true, recurses := true, named := ["math/bits.deBruijn64tab"], plainKeys := false, apart := false, laid := [("math/bits.deBruijn64tab", laid_math_bits_deBruijn64tab)] }
def FarMoreSaid : Prop := farMoreRow.holds Tryz.pinned (OpenSpec.ofChange farMoreSpec)

/-- ITS FALSE NEIGHBOUR: 'it returns false'. Refute it at one input. -/
def farMoreWrong : ChangeSpec := { name := "farMore", fn := fun _ => fun
  | [d1, d2, d3, d4] => { results := [.lit (.bool false)], args := [d1, d2, d3, d4] }
  | _ => none }
def FarMoreWrongFalsely : Prop := farMoreRow.holds Tryz.pinned (OpenSpec.ofChange farMoreWrong)

/- THE SECOND FORM. 'bulk': how many values and letters a reading holds, each counted each time it is reached (what is shared counts as often as it is met; a slice's spare places count too). A statement '..UptoSaid' is the law's where the arguments, and the package variables that the reading takes, are together of bulk at most 1048576: NARROWER than '..Said'. Prove '..Said' where nothing that the law and all that it calls make is longer than what came in: it says more and counts as full. Else prove '..UptoSaid'. A law counts once. -/
mutual
def uptoBulk {H : Type} : DataW H → Nat
  | .lit (.string bytes) => bytes.length + 1
  | .lit _ => 1
  | .nil => 1
  | .ptr d => uptoBulk d + 1
  | .slice elems spare => uptoBulkAll elems + uptoBulkAll spare + 1
  | .agg parts => uptoBulkAll parts + 1
  | .iface _ d => uptoBulk d + 1
  | .map entries => uptoBulkEntries entries + 1
  | .held _ => 1
def uptoBulkAll {H : Type} : List (DataW H) → Nat
  | [] => 0
  | d :: r => uptoBulk d + uptoBulkAll r
def uptoBulkEntries {H : Type} : List (Lit × DataW H) → Nat
  | [] => 0
  | x :: r => uptoBulkEntry x + uptoBulkEntries r
def uptoBulkEntry {H : Type} : Lit × DataW H → Nat
  | (.string bytes, d) => bytes.length + uptoBulk d + 1
  | (_, d) => uptoBulk d + 1
 end
def uptoSmall : (H : Type) → List (DataW H) → Bool := fun _ ds => decide (uptoBulkAll ds ≤ 1048576)
def OpenSpec.upto (s : _root_.Go.ChangeSpec) : _root_.Go.OpenSpec := { _root_.Go.OpenSpec.ofChange s with cond := some uptoSmall }

/-- 'bywaylaw25.FarAll', WHERE WHAT IT READS IS OF BULK AT MOST 1048576: true; the input reads as it did. -/
def farAllUptoRow : OpenClaim := { program := "yteffnejneoocgaagreatdoor", sum := "f99b2b98ed79f4d9709c1e87c4a32cdf1914ae5d8825cb5f70670232139e8687", func := "byway/bywaylaw25.FarAll", spec := "farAll", inPlace := ["internal/bytealg.abigen_runtime_cmpstring", "internal/abi.NoEscape", "slices.overlaps[byway/api.Hop]"], unfollowed := true, recurses := true, named := ["math/bits.deBruijn64tab"], plainKeys := false, apart := false, laid := [("math/bits.deBruijn64tab", laid_math_bits_deBruijn64tab)], narrowed := true }
def FarAllUptoSaid : Prop := farAllUptoRow.holds Tryz.pinned (OpenSpec.upto farAllSpec)

/-- 'bywaylaw25.FarWithin', WHERE WHAT IT READS IS OF BULK AT MOST 1048576: true; the input reads as it did. -/
def farWithinUptoRow : OpenClaim := { program := "yteffnejneoocgaagreatdoor", sum := "f99b2b98ed79f4d9709c1e87c4a32cdf1914ae5d8825cb5f70670232139e8687", func := "byway/bywaylaw25.FarWithin", spec := "farWithin", inPlace := ["internal/bytealg.abigen_runtime_cmpstring", "internal/abi.NoEscape", "slices.overlaps[byway/api.Hop]"], unfollowed := true, recurses := true, named := ["math/bits.deBruijn64tab"], plainKeys := false, apart := false, laid := [("math/bits.deBruijn64tab", laid_math_bits_deBruijn64tab)], narrowed := true }
def FarWithinUptoSaid : Prop := farWithinUptoRow.holds Tryz.pinned (OpenSpec.upto farWithinSpec)

/-- 'bywaylaw25.FarGoes', WHERE WHAT IT READS IS OF BULK AT MOST 1048576: true; the input reads as it did. -/
def farGoesUptoRow : OpenClaim := { program := "yteffnejneoocgaagreatdoor", sum := "f99b2b98ed79f4d9709c1e87c4a32cdf1914ae5d8825cb5f70670232139e8687", func := "byway/bywaylaw25.FarGoes", spec := "farGoes", inPlace := ["internal/bytealg.abigen_runtime_cmpstring", "internal/abi.NoEscape", "slices.overlaps[byway/api.Hop]"], unfollowed := true, recurses := true, named := ["math/bits.deBruijn64tab"], plainKeys := false, apart := false, laid := [("math/bits.deBruijn64tab", laid_math_bits_deBruijn64tab)], narrowed := true }
def FarGoesUptoSaid : Prop := farGoesUptoRow.holds Tryz.pinned (OpenSpec.upto farGoesSpec)

/-- 'bywaylaw25.FarOf', WHERE WHAT IT READS IS OF BULK AT MOST 1048576: true; the input reads as it did. -/
def farOfUptoRow : OpenClaim := { program := "yteffnejneoocgaagreatdoor", sum := "f99b2b98ed79f4d9709c1e87c4a32cdf1914ae5d8825cb5f70670232139e8687", func := "byway/bywaylaw25.FarOf", spec := "farOf", inPlace := ["internal/bytealg.abigen_runtime_cmpstring", "internal/abi.NoEscape", "slices.overlaps[byway/api.Hop]"], unfollowed := true, recurses := true, named := ["math/bits.deBruijn64tab"], plainKeys := false, apart := false, laid := [("math/bits.deBruijn64tab", laid_math_bits_deBruijn64tab)], narrowed := true }
def FarOfUptoSaid : Prop := farOfUptoRow.holds Tryz.pinned (OpenSpec.upto farOfSpec)

/-- 'bywaylaw25.FarMore', WHERE WHAT IT READS IS OF BULK AT MOST 1048576: true; the input reads as it did. -/
def farMoreUptoRow : OpenClaim := { program := "yteffnejneoocgaagreatdoor", sum := "f99b2b98ed79f4d9709c1e87c4a32cdf1914ae5d8825cb5f70670232139e8687", func := "byway/bywaylaw25.FarMore", spec := "farMore", inPlace := ["internal/bytealg.abigen_runtime_cmpstring", "internal/abi.NoEscape", "slices.overlaps[byway/api.Hop]"], unfollowed := true, recurses := true, named := ["math/bits.deBruijn64tab"], plainKeys := false, apart := false, laid := [("math/bits.deBruijn64tab", laid_math_bits_deBruijn64tab)], narrowed := true }
def FarMoreUptoSaid : Prop := farMoreUptoRow.holds Tryz.pinned (OpenSpec.upto farMoreSpec)

end Rows
end Go.Proofs.YteffnejneoocgaaGreatDoor
