/-
  No cell of these rows narrows 'for every input' (looked for: loops, veiled, ifaces, maps, wideKeys, modest, calm, conditions, laid).
  DERIVED. THE GIVEN ROWS OF THIS SEAT. 6 by the template 'for every input the law returns true; each argument reads behind the call as it read before'; 0 by the template 'total and deterministic' (their statements: YthmkgnifcbnkpaaGreatTotals.lean).
  GIVEN WITH THE SEED: the statements are not yours to turn. If you find one false, say at which input.
  Laid BY PROGRAM, IN A SANDBOX (cutbox-rows.mjs): the forced cells as the released guide's own fill.sh prints them over the translation a3db945752f5f926… (all of the seat's roots in one cut). By AI agents, Wed Nov 11 2026. No macro, syntax, notation, axiom, sorry.
-/
import Derived.Test.YthmkgnifcbnkpaaGreatChecked
import GoSem.Claim
import GoSem.ClaimJoined
import GoSem.ClaimMapViews
import Derived.JoinedTies
import Derived.KernelRfl
namespace Go.Proofs.YthmkgnifcbnkpaaGreat
/- THE CELL 'sum', in the pinned program and in every row, IS THE sha256 OF THE DUMP (.gsa) THAT YthmkgnifcbnkpaaGreatProg.lean LOADS. Nothing in Lean hashes anything: it is a label: what it is worth is what the hold of that sum in a sandbox is worth. -/
noncomputable def Tryz.pinned : Pinned := { name := "ythmkgnifcbnkpaagreat", sum := "a3db945752f5f926851fd1ea131229d7f60894f1c85832b4fec9d1c9d53495a5", checked := Tryz.checked }
namespace Rows
def none {H : Type} : Left H := { results := [], args := [] }

/-- 'bywaylaw16.EdgesParse': WHATEVER THE INPUT: true; the input reads as it did. -/
def edgesParseSpec : ChangeSpec := { name := "edgesParse", fn := fun _ => fun
  | [d] => { results := [.lit (.bool true)], args := [d] }
  | _ => none }
def edgesParseRow : OpenClaim := { program := "ythmkgnifcbnkpaagreat", sum := "a3db945752f5f926851fd1ea131229d7f60894f1c85832b4fec9d1c9d53495a5", func := "byway/bywaylaw16.EdgesParse", spec := "edgesParse", inPlace := ["internal/bytealg.abigen_runtime_cmpstring", "internal/abi.NoEscape"], unfollowed := true, recurses := true, apart := false }
def EdgesParseSaid : Prop := edgesParseRow.holds Tryz.pinned (OpenSpec.ofChange edgesParseSpec)

/-- ITS FALSE NEIGHBOUR: 'it returns false'. Refute it at one input. -/
def edgesParseWrong : ChangeSpec := { name := "edgesParse", fn := fun _ => fun
  | [d] => { results := [.lit (.bool false)], args := [d] }
  | _ => none }
def EdgesParseWrongFalsely : Prop := edgesParseRow.holds Tryz.pinned (OpenSpec.ofChange edgesParseWrong)

/-- 'bywaylaw16.EdgesOf': WHATEVER THE INPUT: true; the input reads as it did. -/
def edgesOfSpec : ChangeSpec := { name := "edgesOf", fn := fun _ => fun
  | [d] => { results := [.lit (.bool true)], args := [d] }
  | _ => none }
def edgesOfRow : OpenClaim := { program := "ythmkgnifcbnkpaagreat", sum := "a3db945752f5f926851fd1ea131229d7f60894f1c85832b4fec9d1c9d53495a5", func := "byway/bywaylaw16.EdgesOf", spec := "edgesOf", inPlace := ["internal/bytealg.abigen_runtime_cmpstring", "internal/abi.NoEscape"], unfollowed := true, recurses := true, apart := false }
def EdgesOfSaid : Prop := edgesOfRow.holds Tryz.pinned (OpenSpec.ofChange edgesOfSpec)

/-- ITS FALSE NEIGHBOUR: 'it returns false'. Refute it at one input. -/
def edgesOfWrong : ChangeSpec := { name := "edgesOf", fn := fun _ => fun
  | [d] => { results := [.lit (.bool false)], args := [d] }
  | _ => none }
def EdgesOfWrongFalsely : Prop := edgesOfRow.holds Tryz.pinned (OpenSpec.ofChange edgesOfWrong)

/-- 'bywaylaw16.EdgesOrder': WHATEVER THE INPUT: true; the input reads as it did. -/
def edgesOrderSpec : ChangeSpec := { name := "edgesOrder", fn := fun _ => fun
  | [d1, d2, d3] => { results := [.lit (.bool true)], args := [d1, d2, d3] }
  | _ => none }
def edgesOrderRow : OpenClaim := { program := "ythmkgnifcbnkpaagreat", sum := "a3db945752f5f926851fd1ea131229d7f60894f1c85832b4fec9d1c9d53495a5", func := "byway/bywaylaw16.EdgesOrder", spec := "edgesOrder", inPlace := ["internal/bytealg.abigen_runtime_cmpstring", "internal/abi.NoEscape"], unfollowed := true, recurses := true, apart := false }
def EdgesOrderSaid : Prop := edgesOrderRow.holds Tryz.pinned (OpenSpec.ofChange edgesOrderSpec)

/-- ITS FALSE NEIGHBOUR: 'it returns false'. Refute it at one input. -/
def edgesOrderWrong : ChangeSpec := { name := "edgesOrder", fn := fun _ => fun
  | [d1, d2, d3] => { results := [.lit (.bool false)], args := [d1, d2, d3] }
  | _ => none }
def EdgesOrderWrongFalsely : Prop := edgesOrderRow.holds Tryz.pinned (OpenSpec.ofChange edgesOrderWrong)

/-- 'bywaylaw16.EdgesCheck': WHATEVER THE INPUT: true; the input reads as it did. -/
def edgesCheckSpec : ChangeSpec := { name := "edgesCheck", fn := fun _ => fun
  | [d1, d2] => { results := [.lit (.bool true)], args := [d1, d2] }
  | _ => none }
def edgesCheckRow : OpenClaim := { program := "ythmkgnifcbnkpaagreat", sum := "a3db945752f5f926851fd1ea131229d7f60894f1c85832b4fec9d1c9d53495a5", func := "byway/bywaylaw16.EdgesCheck", spec := "edgesCheck", inPlace := ["internal/bytealg.abigen_runtime_cmpstring", "internal/abi.NoEscape"], unfollowed := true, recurses := true, apart := false }
def EdgesCheckSaid : Prop := edgesCheckRow.holds Tryz.pinned (OpenSpec.ofChange edgesCheckSpec)

/-- ITS FALSE NEIGHBOUR: 'it returns false'. Refute it at one input. -/
def edgesCheckWrong : ChangeSpec := { name := "edgesCheck", fn := fun _ => fun
  | [d1, d2] => { results := [.lit (.bool false)], args := [d1, d2] }
  | _ => none }
def EdgesCheckWrongFalsely : Prop := edgesCheckRow.holds Tryz.pinned (OpenSpec.ofChange edgesCheckWrong)

/-- 'bywaylaw17.GraphOrder': WHATEVER THE INPUT: true; the input reads as it did. -/
def graphOrderSpec : ChangeSpec := { name := "graphOrder", fn := fun _ => fun
  | [d] => { results := [.lit (.bool true)], args := [d] }
  | _ => none }
def graphOrderRow : OpenClaim := { program := "ythmkgnifcbnkpaagreat", sum := "a3db945752f5f926851fd1ea131229d7f60894f1c85832b4fec9d1c9d53495a5", func := "byway/bywaylaw17.GraphOrder", spec := "graphOrder", inPlace := ["internal/bytealg.abigen_runtime_cmpstring", "internal/abi.NoEscape", "slices.overlaps[byway/api.Hop]"], unfollowed := true, recurses := true, apart := false }
def GraphOrderSaid : Prop := graphOrderRow.holds Tryz.pinned (OpenSpec.ofChange graphOrderSpec)

/-- ITS FALSE NEIGHBOUR: 'it returns false'. Refute it at one input. -/
def graphOrderWrong : ChangeSpec := { name := "graphOrder", fn := fun _ => fun
  | [d] => { results := [.lit (.bool false)], args := [d] }
  | _ => none }
def GraphOrderWrongFalsely : Prop := graphOrderRow.holds Tryz.pinned (OpenSpec.ofChange graphOrderWrong)

/-- 'bywaylaw17.GraphStays': WHATEVER THE INPUT: true; the input reads as it did. -/
def graphStaysSpec : ChangeSpec := { name := "graphStays", fn := fun _ => fun
  | [d1, d2, d3, d4] => { results := [.lit (.bool true)], args := [d1, d2, d3, d4] }
  | _ => none }
def graphStaysRow : OpenClaim := { program := "ythmkgnifcbnkpaagreat", sum := "a3db945752f5f926851fd1ea131229d7f60894f1c85832b4fec9d1c9d53495a5", func := "byway/bywaylaw17.GraphStays", spec := "graphStays", inPlace := ["internal/bytealg.abigen_runtime_cmpstring", "internal/abi.NoEscape", "slices.overlaps[byway/api.Hop]", "maps.clone"], unfollowed := true, recurses := true, apart := false }
def GraphStaysSaid : Prop := graphStaysRow.holds Tryz.pinned (OpenSpec.ofChange graphStaysSpec)

/-- ITS FALSE NEIGHBOUR: 'it returns false'. Refute it at one input. -/
def graphStaysWrong : ChangeSpec := { name := "graphStays", fn := fun _ => fun
  | [d1, d2, d3, d4] => { results := [.lit (.bool false)], args := [d1, d2, d3, d4] }
  | _ => none }
def GraphStaysWrongFalsely : Prop := graphStaysRow.holds Tryz.pinned (OpenSpec.ofChange graphStaysWrong)

/- THE SECOND FORM. 'bulk': how many values and letters a reading holds, each counted each time it is reached (what is shared counts as often as it is met; a slice's spare places count too). A statement '..UptoSaid' is the law's where the arguments, and the package variables that the reading takes, are together of bulk at most 1048576: NARROWER than '..Said'. Prove '..Said' where nothing that the law and all that it calls make is longer than what came in: it says more and counts as full. Else prove '..UptoSaid'. A law counts once. -/
mutual
def uptoBulk {H : Type} : DataW H → Nat
  | .lit (.string bytes) => bytes.length + 1
  | .lit _ => 1
  | .nil => 1
  | .ptr d => uptoBulk d + 1
  | .slice elems spare => uptoBulkAll elems + uptoBulkAll spare + 1
  | .agg parts => uptoBulkAll parts + 1
  | .iface _ d => uptoBulk d + 1
  | .map entries => uptoBulkEntries entries + 1
  | .held _ => 1
def uptoBulkAll {H : Type} : List (DataW H) → Nat
  | [] => 0
  | d :: r => uptoBulk d + uptoBulkAll r
def uptoBulkEntries {H : Type} : List (Lit × DataW H) → Nat
  | [] => 0
  | x :: r => uptoBulkEntry x + uptoBulkEntries r
def uptoBulkEntry {H : Type} : Lit × DataW H → Nat
  | (.string bytes, d) => bytes.length + uptoBulk d + 1
  | (_, d) => uptoBulk d + 1
 end
def uptoSmall : (H : Type) → List (DataW H) → Bool := fun _ ds => decide (uptoBulkAll ds ≤ 1048576)
def OpenSpec.upto (s : _root_.Go.ChangeSpec) : _root_.Go.OpenSpec := { _root_.Go.OpenSpec.ofChange s with cond := some uptoSmall }

/-- 'bywaylaw16.EdgesParse', WHERE WHAT IT READS IS OF BULK AT MOST 1048576: true; the input reads as it did. -/
def edgesParseUptoRow : OpenClaim := { program := "ythmkgnifcbnkpaagreat", sum := "a3db945752f5f926851fd1ea131229d7f60894f1c85832b4fec9d1c9d53495a5", func := "byway/bywaylaw16.EdgesParse", spec := "edgesParse", inPlace := ["internal/bytealg.abigen_runtime_cmpstring", "internal/abi.NoEscape"], unfollowed := true, recurses := true, apart := false, narrowed := true }
def EdgesParseUptoSaid : Prop := edgesParseUptoRow.holds Tryz.pinned (OpenSpec.upto edgesParseSpec)

/-- 'bywaylaw16.EdgesOf', WHERE WHAT IT READS IS OF BULK AT MOST 1048576: true; the input reads as it did. -/
def edgesOfUptoRow : OpenClaim := { program := "ythmkgnifcbnkpaagreat", sum := "a3db945752f5f926851fd1ea131229d7f60894f1c85832b4fec9d1c9d53495a5", func := "byway/bywaylaw16.EdgesOf", spec := "edgesOf", inPlace := ["internal/bytealg.abigen_runtime_cmpstring", "internal/abi.NoEscape"], unfollowed := true, recurses := true, apart := false, narrowed := true }
def EdgesOfUptoSaid : Prop := edgesOfUptoRow.holds Tryz.pinned (OpenSpec.upto edgesOfSpec)

/-- 'bywaylaw16.EdgesOrder', WHERE WHAT IT READS IS OF BULK AT MOST 1048576: true; the input reads as it did. -/
def edgesOrderUptoRow : OpenClaim := { program := "ythmkgnifcbnkpaagreat", sum := "a3db945752f5f926851fd1ea131229d7f60894f1c85832b4fec9d1c9d53495a5", func := "byway/bywaylaw16.EdgesOrder", spec := "edgesOrder", inPlace := ["internal/bytealg.abigen_runtime_cmpstring", "internal/abi.NoEscape"], unfollowed := true, recurses := true, apart := false, narrowed := true }
def EdgesOrderUptoSaid : Prop := edgesOrderUptoRow.holds Tryz.pinned (OpenSpec.upto edgesOrderSpec)

/-- 'bywaylaw16.EdgesCheck', WHERE WHAT IT READS IS OF BULK AT MOST 1048576: true; the input reads as it did. -/
def edgesCheckUptoRow : OpenClaim := { program := "ythmkgnifcbnkpaagreat", sum := "a3db945752f5f926851fd1ea131229d7f60894f1c85832b4fec9d1c9d53495a5", func := "byway/bywaylaw16.EdgesCheck", spec := "edgesCheck", inPlace := ["internal/bytealg.abigen_runtime_cmpstring", "internal/abi.NoEscape"], unfollowed := true, recurses := true, apart := false, narrowed := true }
def EdgesCheckUptoSaid : Prop := edgesCheckUptoRow.holds Tryz.pinned (OpenSpec.upto edgesCheckSpec)

/-- 'bywaylaw17.GraphOrder', WHERE WHAT IT READS IS OF BULK AT MOST 1048576: true; the input reads as it did. -/
def graphOrderUptoRow : OpenClaim := { program := "ythmkgnifcbnkpaagreat", sum := "a3db945752f5f926851fd1ea131229d7f60894f1c85832b4fec9d1c9d53495a5", func := "byway/bywaylaw17.GraphOrder", spec := "graphOrder", inPlace := ["internal/bytealg.abigen_runtime_cmpstring", "internal/abi.NoEscape", "slices.overlaps[byway/api.Hop]"], unfollowed := true, recurses := true, apart := false, narrowed := true }
def GraphOrderUptoSaid : Prop := graphOrderUptoRow.holds Tryz.pinned (OpenSpec.upto graphOrderSpec)

/-- 'bywaylaw17.GraphStays', WHERE WHAT IT READS IS OF BULK AT MOST 1048576: true; the input reads as it did. -/
def graphStaysUptoRow : OpenClaim := { program := "ythmkgnifcbnkpaagreat", sum := "a3db945752f5f926851fd1ea131229d7f60894f1c85832b4fec9d1c9d53495a5", func := "byway/bywaylaw17.GraphStays", spec := "graphStays", inPlace := ["internal/bytealg.abigen_runtime_cmpstring", "internal/abi.NoEscape", "slices.overlaps[byway/api.Hop]", "maps.clone"], unfollowed := true, recurses := true, apart := false, narrowed := true }
def GraphStaysUptoSaid : Prop := graphStaysUptoRow.holds Tryz.pinned (OpenSpec.upto graphStaysSpec)

end Rows
end Go.Proofs.YthmkgnifcbnkpaaGreat
