/-
  No cell of these rows narrows 'for every input' (looked for: loops, veiled, ifaces, maps, wideKeys, modest, calm, conditions, laid).
  DERIVED. THE GIVEN ROWS OF THIS SEAT. 8 by the template 'for every input the law returns true; each argument reads behind the call as it read before'; 0 by the template 'total and deterministic' (their statements: YtbppbgdmoihooaaTotals.lean).
  GIVEN WITH THE SEED: the statements are not yours to turn. If you find one false, say at which input.
  Laid BY PROGRAM, IN A SANDBOX (cutbox-rows.mjs): the forced cells as the released guide's own fill.sh prints them over the translation afc27ea90bbdad17… (all of the seat's roots in one cut). By AI agents, Wed Nov 11 2026. No macro, syntax, notation, axiom, sorry.
-/
import Derived.Test.YtbppbgdmoihooaaChecked
import GoSem.Claim
import GoSem.ClaimJoined
import GoSem.ClaimMapViews
import Derived.JoinedTies
import Derived.KernelRfl
namespace Go.Proofs.Ytbppbgdmoihooaa
/- THE CELL 'sum', in the pinned program and in every row, IS THE sha256 OF THE DUMP (.gsa) THAT YtbppbgdmoihooaaProg.lean LOADS. Nothing in Lean hashes anything: it is a label: what it is worth is what the hold of that sum in a sandbox is worth. -/
noncomputable def Try.pinned : Pinned := { name := "ytbppbgdmoihooaa", sum := "afc27ea90bbdad17b8d3bb53293cc3177d2c257e37e2c84afd1d77acac9fbeb8", checked := Try.checked }
namespace Rows
def none {H : Type} : Left H := { results := [], args := [] }

/-- 'bywaylaw20.GssNodes': WHATEVER THE INPUT: true; the input reads as it did. -/
def gssNodesSpec : ChangeSpec := { name := "gssNodes", fn := fun _ => fun
  | [d] => { results := [.lit (.bool true)], args := [d] }
  | _ => none }
def gssNodesRow : OpenClaim := { program := "ytbppbgdmoihooaa", sum := "afc27ea90bbdad17b8d3bb53293cc3177d2c257e37e2c84afd1d77acac9fbeb8", func := "byway/bywaylaw20.GssNodes", spec := "gssNodes", plainKeys := false, apart := false }
def GssNodesSaid : Prop := gssNodesRow.holds Try.pinned (OpenSpec.ofChange gssNodesSpec)

/-- ITS FALSE NEIGHBOUR: 'it returns false'. Refute it at one input. -/
def gssNodesWrong : ChangeSpec := { name := "gssNodes", fn := fun _ => fun
  | [d] => { results := [.lit (.bool false)], args := [d] }
  | _ => none }
def GssNodesWrongFalsely : Prop := gssNodesRow.holds Try.pinned (OpenSpec.ofChange gssNodesWrong)

/-- 'bywaylaw20.GssMeets': WHATEVER THE INPUT: true; the input reads as it did. -/
def gssMeetsSpec : ChangeSpec := { name := "gssMeets", fn := fun _ => fun
  | [d1, d2] => { results := [.lit (.bool true)], args := [d1, d2] }
  | _ => none }
def gssMeetsRow : OpenClaim := { program := "ytbppbgdmoihooaa", sum := "afc27ea90bbdad17b8d3bb53293cc3177d2c257e37e2c84afd1d77acac9fbeb8", func := "byway/bywaylaw20.GssMeets", spec := "gssMeets", plainKeys := false, apart := false }
def GssMeetsSaid : Prop := gssMeetsRow.holds Try.pinned (OpenSpec.ofChange gssMeetsSpec)

/-- ITS FALSE NEIGHBOUR: 'it returns false'. Refute it at one input. -/
def gssMeetsWrong : ChangeSpec := { name := "gssMeets", fn := fun _ => fun
  | [d1, d2] => { results := [.lit (.bool false)], args := [d1, d2] }
  | _ => none }
def GssMeetsWrongFalsely : Prop := gssMeetsRow.holds Try.pinned (OpenSpec.ofChange gssMeetsWrong)

/-- 'bywaylaw20.GssPlays': WHATEVER THE INPUT: true; the input reads as it did. -/
def gssPlaysSpec : ChangeSpec := { name := "gssPlays", fn := fun _ => fun
  | [d] => { results := [.lit (.bool true)], args := [d] }
  | _ => none }
def gssPlaysRow : OpenClaim := { program := "ytbppbgdmoihooaa", sum := "afc27ea90bbdad17b8d3bb53293cc3177d2c257e37e2c84afd1d77acac9fbeb8", func := "byway/bywaylaw20.GssPlays", spec := "gssPlays", unfollowed := true, recurses := true, plainKeys := false, apart := false }
def GssPlaysSaid : Prop := gssPlaysRow.holds Try.pinned (OpenSpec.ofChange gssPlaysSpec)

/-- ITS FALSE NEIGHBOUR: 'it returns false'. Refute it at one input. -/
def gssPlaysWrong : ChangeSpec := { name := "gssPlays", fn := fun _ => fun
  | [d] => { results := [.lit (.bool false)], args := [d] }
  | _ => none }
def GssPlaysWrongFalsely : Prop := gssPlaysRow.holds Try.pinned (OpenSpec.ofChange gssPlaysWrong)

/-- 'bywaylaw20.GssNone': WHATEVER THE INPUT: true; the input reads as it did. -/
def gssNoneSpec : ChangeSpec := { name := "gssNone", fn := fun _ => fun
  | [d1, d2, d3] => { results := [.lit (.bool true)], args := [d1, d2, d3] }
  | _ => none }
def gssNoneRow : OpenClaim := { program := "ytbppbgdmoihooaa", sum := "afc27ea90bbdad17b8d3bb53293cc3177d2c257e37e2c84afd1d77acac9fbeb8", func := "byway/bywaylaw20.GssNone", spec := "gssNone", unfollowed := true, recurses := true, plainKeys := false, apart := false }
def GssNoneSaid : Prop := gssNoneRow.holds Try.pinned (OpenSpec.ofChange gssNoneSpec)

/-- ITS FALSE NEIGHBOUR: 'it returns false'. Refute it at one input. -/
def gssNoneWrong : ChangeSpec := { name := "gssNone", fn := fun _ => fun
  | [d1, d2, d3] => { results := [.lit (.bool false)], args := [d1, d2, d3] }
  | _ => none }
def GssNoneWrongFalsely : Prop := gssNoneRow.holds Try.pinned (OpenSpec.ofChange gssNoneWrong)

/-- 'bywaylaw29.TrimCuts': WHATEVER THE INPUT: true; the input reads as it did. -/
def trimCutsSpec : ChangeSpec := { name := "trimCuts", fn := fun _ => fun
  | [d1, d2] => { results := [.lit (.bool true)], args := [d1, d2] }
  | _ => none }
def trimCutsRow : OpenClaim := { program := "ytbppbgdmoihooaa", sum := "afc27ea90bbdad17b8d3bb53293cc3177d2c257e37e2c84afd1d77acac9fbeb8", func := "byway/bywaylaw29.TrimCuts", spec := "trimCuts", unfollowed := true, recurses := true, plainKeys := false, apart := false }
def TrimCutsSaid : Prop := trimCutsRow.holds Try.pinned (OpenSpec.ofChange trimCutsSpec)

/-- ITS FALSE NEIGHBOUR: 'it returns false'. Refute it at one input. -/
def trimCutsWrong : ChangeSpec := { name := "trimCuts", fn := fun _ => fun
  | [d1, d2] => { results := [.lit (.bool false)], args := [d1, d2] }
  | _ => none }
def TrimCutsWrongFalsely : Prop := trimCutsRow.holds Try.pinned (OpenSpec.ofChange trimCutsWrong)

/-- 'bywaylaw29.TrimPicks': WHATEVER THE INPUT: true; the input reads as it did. -/
def trimPicksSpec : ChangeSpec := { name := "trimPicks", fn := fun _ => fun
  | [d1, d2] => { results := [.lit (.bool true)], args := [d1, d2] }
  | _ => none }
def trimPicksRow : OpenClaim := { program := "ytbppbgdmoihooaa", sum := "afc27ea90bbdad17b8d3bb53293cc3177d2c257e37e2c84afd1d77acac9fbeb8", func := "byway/bywaylaw29.TrimPicks", spec := "trimPicks", unfollowed := true, recurses := true, plainKeys := false, apart := false }
def TrimPicksSaid : Prop := trimPicksRow.holds Try.pinned (OpenSpec.ofChange trimPicksSpec)

/-- ITS FALSE NEIGHBOUR: 'it returns false'. Refute it at one input. -/
def trimPicksWrong : ChangeSpec := { name := "trimPicks", fn := fun _ => fun
  | [d1, d2] => { results := [.lit (.bool false)], args := [d1, d2] }
  | _ => none }
def TrimPicksWrongFalsely : Prop := trimPicksRow.holds Try.pinned (OpenSpec.ofChange trimPicksWrong)

/-- 'bywaylaw29.TrimTells': WHATEVER THE INPUT: true; the input reads as it did. -/
def trimTellsSpec : ChangeSpec := { name := "trimTells", fn := fun _ => fun
  | [d] => { results := [.lit (.bool true)], args := [d] }
  | _ => none }
def trimTellsRow : OpenClaim := { program := "ytbppbgdmoihooaa", sum := "afc27ea90bbdad17b8d3bb53293cc3177d2c257e37e2c84afd1d77acac9fbeb8", func := "byway/bywaylaw29.TrimTells", spec := "trimTells", unfollowed := true, recurses := true, plainKeys := false, apart := false }
def TrimTellsSaid : Prop := trimTellsRow.holds Try.pinned (OpenSpec.ofChange trimTellsSpec)

/-- ITS FALSE NEIGHBOUR: 'it returns false'. Refute it at one input. -/
def trimTellsWrong : ChangeSpec := { name := "trimTells", fn := fun _ => fun
  | [d] => { results := [.lit (.bool false)], args := [d] }
  | _ => none }
def TrimTellsWrongFalsely : Prop := trimTellsRow.holds Try.pinned (OpenSpec.ofChange trimTellsWrong)

/-- 'bywaylaw29.TrimTwice': WHATEVER THE INPUT: true; the input reads as it did. -/
def trimTwiceSpec : ChangeSpec := { name := "trimTwice", fn := fun _ => fun
  | [d1, d2] => { results := [.lit (.bool true)], args := [d1, d2] }
  | _ => none }
def trimTwiceRow : OpenClaim := { program := "ytbppbgdmoihooaa", sum := "afc27ea90bbdad17b8d3bb53293cc3177d2c257e37e2c84afd1d77acac9fbeb8", func := "byway/bywaylaw29.TrimTwice", spec := "trimTwice", unfollowed := true, recurses := true, plainKeys := false, apart := false }
def TrimTwiceSaid : Prop := trimTwiceRow.holds Try.pinned (OpenSpec.ofChange trimTwiceSpec)

/-- ITS FALSE NEIGHBOUR: 'it returns false'. Refute it at one input. -/
def trimTwiceWrong : ChangeSpec := { name := "trimTwice", fn := fun _ => fun
  | [d1, d2] => { results := [.lit (.bool false)], args := [d1, d2] }
  | _ => none }
def TrimTwiceWrongFalsely : Prop := trimTwiceRow.holds Try.pinned (OpenSpec.ofChange trimTwiceWrong)

/- THE SECOND FORM. 'bulk': how many values and letters a reading holds, each counted each time it is reached (what is shared counts as often as it is met; a slice's spare places count too). A statement '..UptoSaid' is the law's where the arguments, and the package variables that the reading takes, are together of bulk at most 1048576: NARROWER than '..Said'. Prove '..Said' where nothing that the law and all that it calls make is longer than what came in: it says more and counts as full. Else prove '..UptoSaid'. A law counts once. -/
mutual
def uptoBulk {H : Type} : DataW H → Nat
  | .lit (.string bytes) => bytes.length + 1
  | .lit _ => 1
  | .nil => 1
  | .ptr d => uptoBulk d + 1
  | .slice elems spare => uptoBulkAll elems + uptoBulkAll spare + 1
  | .agg parts => uptoBulkAll parts + 1
  | .iface _ d => uptoBulk d + 1
  | .map entries => uptoBulkEntries entries + 1
  | .held _ => 1
def uptoBulkAll {H : Type} : List (DataW H) → Nat
  | [] => 0
  | d :: r => uptoBulk d + uptoBulkAll r
def uptoBulkEntries {H : Type} : List (Lit × DataW H) → Nat
  | [] => 0
  | x :: r => uptoBulkEntry x + uptoBulkEntries r
def uptoBulkEntry {H : Type} : Lit × DataW H → Nat
  | (.string bytes, d) => bytes.length + uptoBulk d + 1
  | (_, d) => uptoBulk d + 1
 end
def uptoSmall : (H : Type) → List (DataW H) → Bool := fun _ ds => decide (uptoBulkAll ds ≤ 1048576)
def OpenSpec.upto (s : _root_.Go.ChangeSpec) : _root_.Go.OpenSpec := { _root_.Go.OpenSpec.ofChange s with cond := some uptoSmall }

/-- 'bywaylaw20.GssNodes', WHERE WHAT IT READS IS OF BULK AT MOST 1048576: true; the input reads as it did. -/
def gssNodesUptoRow : OpenClaim := { program := "ytbppbgdmoihooaa", sum := "afc27ea90bbdad17b8d3bb53293cc3177d2c257e37e2c84afd1d77acac9fbeb8", func := "byway/bywaylaw20.GssNodes", spec := "gssNodes", plainKeys := false, apart := false, narrowed := true }
def GssNodesUptoSaid : Prop := gssNodesUptoRow.holds Try.pinned (OpenSpec.upto gssNodesSpec)

/-- 'bywaylaw20.GssMeets', WHERE WHAT IT READS IS OF BULK AT MOST 1048576: true; the input reads as it did. -/
def gssMeetsUptoRow : OpenClaim := { program := "ytbppbgdmoihooaa", sum := "afc27ea90bbdad17b8d3bb53293cc3177d2c257e37e2c84afd1d77acac9fbeb8", func := "byway/bywaylaw20.GssMeets", spec := "gssMeets", plainKeys := false, apart := false, narrowed := true }
def GssMeetsUptoSaid : Prop := gssMeetsUptoRow.holds Try.pinned (OpenSpec.upto gssMeetsSpec)

/-- 'bywaylaw20.GssPlays', WHERE WHAT IT READS IS OF BULK AT MOST 1048576: true; the input reads as it did. -/
def gssPlaysUptoRow : OpenClaim := { program := "ytbppbgdmoihooaa", sum := "afc27ea90bbdad17b8d3bb53293cc3177d2c257e37e2c84afd1d77acac9fbeb8", func := "byway/bywaylaw20.GssPlays", spec := "gssPlays", unfollowed := true, recurses := true, plainKeys := false, apart := false, narrowed := true }
def GssPlaysUptoSaid : Prop := gssPlaysUptoRow.holds Try.pinned (OpenSpec.upto gssPlaysSpec)

/-- 'bywaylaw20.GssNone', WHERE WHAT IT READS IS OF BULK AT MOST 1048576: true; the input reads as it did. -/
def gssNoneUptoRow : OpenClaim := { program := "ytbppbgdmoihooaa", sum := "afc27ea90bbdad17b8d3bb53293cc3177d2c257e37e2c84afd1d77acac9fbeb8", func := "byway/bywaylaw20.GssNone", spec := "gssNone", unfollowed := true, recurses := true, plainKeys := false, apart := false, narrowed := true }
def GssNoneUptoSaid : Prop := gssNoneUptoRow.holds Try.pinned (OpenSpec.upto gssNoneSpec)

/-- 'bywaylaw29.TrimCuts', WHERE WHAT IT READS IS OF BULK AT MOST 1048576: true; the input reads as it did. -/
def trimCutsUptoRow : OpenClaim := { program := "ytbppbgdmoihooaa", sum := "afc27ea90bbdad17b8d3bb53293cc3177d2c257e37e2c84afd1d77acac9fbeb8", func := "byway/bywaylaw29.TrimCuts", spec := "trimCuts", unfollowed := true, recurses := true, plainKeys := false, apart := false, narrowed := true }
def TrimCutsUptoSaid : Prop := trimCutsUptoRow.holds Try.pinned (OpenSpec.upto trimCutsSpec)

/-- 'bywaylaw29.TrimPicks', WHERE WHAT IT READS IS OF BULK AT MOST 1048576: true; the input reads as it did. -/
def trimPicksUptoRow : OpenClaim := { program := "ytbppbgdmoihooaa", sum := "afc27ea90bbdad17b8d3bb53293cc3177d2c257e37e2c84afd1d77acac9fbeb8", func := "byway/bywaylaw29.TrimPicks", spec := "trimPicks", unfollowed := true, recurses := true, plainKeys := false, apart := false, narrowed := true }
def TrimPicksUptoSaid : Prop := trimPicksUptoRow.holds Try.pinned (OpenSpec.upto trimPicksSpec)

/-- 'bywaylaw29.TrimTells', WHERE WHAT IT READS IS OF BULK AT MOST 1048576: true; the input reads as it did. -/
def trimTellsUptoRow : OpenClaim := { program := "ytbppbgdmoihooaa", sum := "afc27ea90bbdad17b8d3bb53293cc3177d2c257e37e2c84afd1d77acac9fbeb8", func := "byway/bywaylaw29.TrimTells", spec := "trimTells", unfollowed := true, recurses := true, plainKeys := false, apart := false, narrowed := true }
def TrimTellsUptoSaid : Prop := trimTellsUptoRow.holds Try.pinned (OpenSpec.upto trimTellsSpec)

/-- 'bywaylaw29.TrimTwice', WHERE WHAT IT READS IS OF BULK AT MOST 1048576: true; the input reads as it did. -/
def trimTwiceUptoRow : OpenClaim := { program := "ytbppbgdmoihooaa", sum := "afc27ea90bbdad17b8d3bb53293cc3177d2c257e37e2c84afd1d77acac9fbeb8", func := "byway/bywaylaw29.TrimTwice", spec := "trimTwice", unfollowed := true, recurses := true, plainKeys := false, apart := false, narrowed := true }
def TrimTwiceUptoSaid : Prop := trimTwiceUptoRow.holds Try.pinned (OpenSpec.upto trimTwiceSpec)

end Rows
end Go.Proofs.Ytbppbgdmoihooaa
