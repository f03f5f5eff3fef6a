/-
  No cell of these rows narrows 'for every input' (looked for: loops, veiled, ifaces, maps, wideKeys, modest, calm, conditions, laid).
  DERIVED. THE GIVEN ROWS OF THIS SEAT. 3 by the template 'for every input the law returns true; each argument reads behind the call as it read before'; 0 by the template 'total and deterministic' (their statements: YtabonallopdgdaaTotals.lean).
  GIVEN WITH THE SEED: the statements are not yours to turn. If you find one false, say at which input.
  Laid BY PROGRAM, IN A SANDBOX (cutbox-rows.mjs): the forced cells as the released guide's own fill.sh prints them over the translation 77a507a4bbb49b01… (all of the seat's roots in one cut). By AI agents, Wed Nov 11 2026. No macro, syntax, notation, axiom, sorry.
-/
import Derived.Test.YtabonallopdgdaaChecked
import GoSem.Claim
import GoSem.ClaimJoined
import GoSem.ClaimMapViews
import Derived.JoinedTies
import Derived.KernelRfl
namespace Go.Proofs.Ytabonallopdgdaa
/- THE CELL 'sum', in the pinned program and in every row, IS THE sha256 OF THE DUMP (.gsa) THAT YtabonallopdgdaaProg.lean LOADS. Nothing in Lean hashes anything: it is a label: what it is worth is what the hold of that sum in a sandbox is worth. -/
noncomputable def Try.pinned : Pinned := { name := "ytabonallopdgdaa", sum := "77a507a4bbb49b017abf5ef0490be7118f2a9be8df4f7541cdb7bbd3a0ec7300", checked := Try.checked }
namespace Rows
def none {H : Type} : Left H := { results := [], args := [] }

/-- 'campanilelaw43.BuildTables': WHATEVER THE INPUT: true; the input reads as it did. -/
def buildTablesSpec : ChangeSpec := { name := "buildTables", fn := fun _ => fun
  | [d] => { results := [.lit (.bool true)], args := [d] }
  | _ => none }
def buildTablesRow : OpenClaim := { program := "ytabonallopdgdaa", sum := "77a507a4bbb49b017abf5ef0490be7118f2a9be8df4f7541cdb7bbd3a0ec7300", func := "campanile/campanilelaw43.BuildTables", spec := "buildTables", unfollowed := true, recurses := true, apart := false }
def BuildTablesSaid : Prop := buildTablesRow.holds Try.pinned (OpenSpec.ofChange buildTablesSpec)

/-- ITS FALSE NEIGHBOUR: 'it returns false'. Refute it at one input. -/
def buildTablesWrong : ChangeSpec := { name := "buildTables", fn := fun _ => fun
  | [d] => { results := [.lit (.bool false)], args := [d] }
  | _ => none }
def BuildTablesWrongFalsely : Prop := buildTablesRow.holds Try.pinned (OpenSpec.ofChange buildTablesWrong)

/-- 'campanilelaw43.BuildGaps': WHATEVER THE INPUT: true; the input reads as it did. -/
def buildGapsSpec : ChangeSpec := { name := "buildGaps", fn := fun _ => fun
  | [d1, d2, d3, d4] => { results := [.lit (.bool true)], args := [d1, d2, d3, d4] }
  | _ => none }
def buildGapsRow : OpenClaim := { program := "ytabonallopdgdaa", sum := "77a507a4bbb49b017abf5ef0490be7118f2a9be8df4f7541cdb7bbd3a0ec7300", func := "campanile/campanilelaw43.BuildGaps", spec := "buildGaps", unfollowed := true, recurses := true, apart := false }
def BuildGapsSaid : Prop := buildGapsRow.holds Try.pinned (OpenSpec.ofChange buildGapsSpec)

/-- ITS FALSE NEIGHBOUR: 'it returns false'. Refute it at one input. -/
def buildGapsWrong : ChangeSpec := { name := "buildGaps", fn := fun _ => fun
  | [d1, d2, d3, d4] => { results := [.lit (.bool false)], args := [d1, d2, d3, d4] }
  | _ => none }
def BuildGapsWrongFalsely : Prop := buildGapsRow.holds Try.pinned (OpenSpec.ofChange buildGapsWrong)

/-- 'campanilelaw43.BuildAdds': WHATEVER THE INPUT: true; the input reads as it did. -/
def buildAddsSpec : ChangeSpec := { name := "buildAdds", fn := fun _ => fun
  | [d1, d2] => { results := [.lit (.bool true)], args := [d1, d2] }
  | _ => none }
def buildAddsRow : OpenClaim := { program := "ytabonallopdgdaa", sum := "77a507a4bbb49b017abf5ef0490be7118f2a9be8df4f7541cdb7bbd3a0ec7300", func := "campanile/campanilelaw43.BuildAdds", spec := "buildAdds", unfollowed := true, recurses := true, apart := false }
def BuildAddsSaid : Prop := buildAddsRow.holds Try.pinned (OpenSpec.ofChange buildAddsSpec)

/-- ITS FALSE NEIGHBOUR: 'it returns false'. Refute it at one input. -/
def buildAddsWrong : ChangeSpec := { name := "buildAdds", fn := fun _ => fun
  | [d1, d2] => { results := [.lit (.bool false)], args := [d1, d2] }
  | _ => none }
def BuildAddsWrongFalsely : Prop := buildAddsRow.holds Try.pinned (OpenSpec.ofChange buildAddsWrong)

/- THE SECOND FORM. 'bulk': how many values and letters a reading holds, each counted each time it is reached (what is shared counts as often as it is met; a slice's spare places count too). A statement '..UptoSaid' is the law's where the arguments, and the package variables that the reading takes, are together of bulk at most 1048576: NARROWER than '..Said'. Prove '..Said' where nothing that the law and all that it calls make is longer than what came in: it says more and counts as full. Else prove '..UptoSaid'. A law counts once. -/
mutual
def uptoBulk {H : Type} : DataW H → Nat
  | .lit (.string bytes) => bytes.length + 1
  | .lit _ => 1
  | .nil => 1
  | .ptr d => uptoBulk d + 1
  | .slice elems spare => uptoBulkAll elems + uptoBulkAll spare + 1
  | .agg parts => uptoBulkAll parts + 1
  | .iface _ d => uptoBulk d + 1
  | .map entries => uptoBulkEntries entries + 1
  | .held _ => 1
def uptoBulkAll {H : Type} : List (DataW H) → Nat
  | [] => 0
  | d :: r => uptoBulk d + uptoBulkAll r
def uptoBulkEntries {H : Type} : List (Lit × DataW H) → Nat
  | [] => 0
  | x :: r => uptoBulkEntry x + uptoBulkEntries r
def uptoBulkEntry {H : Type} : Lit × DataW H → Nat
  | (.string bytes, d) => bytes.length + uptoBulk d + 1
  | (_, d) => uptoBulk d + 1
 end
def uptoSmall : (H : Type) → List (DataW H) → Bool := fun _ ds => decide (uptoBulkAll ds ≤ 1048576)
def OpenSpec.upto (s : _root_.Go.ChangeSpec) : _root_.Go.OpenSpec := { _root_.Go.OpenSpec.ofChange s with cond := some uptoSmall }

/-- 'campanilelaw43.BuildTables', WHERE WHAT IT READS IS OF BULK AT MOST 1048576: true; the input reads as it did. -/
def buildTablesUptoRow : OpenClaim := { program := "ytabonallopdgdaa", sum := "77a507a4bbb49b017abf5ef0490be7118f2a9be8df4f7541cdb7bbd3a0ec7300", func := "campanile/campanilelaw43.BuildTables", spec := "buildTables", unfollowed := true, recurses := true, apart := false, narrowed := true }
def BuildTablesUptoSaid : Prop := buildTablesUptoRow.holds Try.pinned (OpenSpec.upto buildTablesSpec)

/-- 'campanilelaw43.BuildGaps', WHERE WHAT IT READS IS OF BULK AT MOST 1048576: true; the input reads as it did. -/
def buildGapsUptoRow : OpenClaim := { program := "ytabonallopdgdaa", sum := "77a507a4bbb49b017abf5ef0490be7118f2a9be8df4f7541cdb7bbd3a0ec7300", func := "campanile/campanilelaw43.BuildGaps", spec := "buildGaps", unfollowed := true, recurses := true, apart := false, narrowed := true }
def BuildGapsUptoSaid : Prop := buildGapsUptoRow.holds Try.pinned (OpenSpec.upto buildGapsSpec)

/-- 'campanilelaw43.BuildAdds', WHERE WHAT IT READS IS OF BULK AT MOST 1048576: true; the input reads as it did. -/
def buildAddsUptoRow : OpenClaim := { program := "ytabonallopdgdaa", sum := "77a507a4bbb49b017abf5ef0490be7118f2a9be8df4f7541cdb7bbd3a0ec7300", func := "campanile/campanilelaw43.BuildAdds", spec := "buildAdds", unfollowed := true, recurses := true, apart := false, narrowed := true }
def BuildAddsUptoSaid : Prop := buildAddsUptoRow.holds Try.pinned (OpenSpec.upto buildAddsSpec)

end Rows
end Go.Proofs.Ytabonallopdgdaa
