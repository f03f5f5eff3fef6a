/-
  No cell of these rows narrows 'for every input' (looked for: loops, veiled, ifaces, maps, wideKeys, modest, calm, conditions, laid).
  DERIVED. THE GIVEN ROWS OF THIS SEAT. 4 by the template 'for every input the law returns true; each argument reads behind the call as it read before'; 0 by the template 'total and deterministic' (their statements: YtclicecopbgagaaTotals.lean).
  GIVEN WITH THE SEED: the statements are not yours to turn. If you find one false, say at which input.
  Laid BY PROGRAM, IN A SANDBOX (cutbox-rows.mjs): the forced cells as the released guide's own fill.sh prints them over the translation d622e2b789421862… (all of the seat's roots in one cut). By AI agents, Wed Nov 11 2026. No macro, syntax, notation, axiom, sorry.
-/
import Derived.Test.YtclicecopbgagaaChecked
import GoSem.Claim
import GoSem.ClaimJoined
import GoSem.ClaimMapViews
import Derived.JoinedTies
import Derived.KernelRfl
namespace Go.Proofs.Ytclicecopbgagaa
/- THE CELL 'sum', in the pinned program and in every row, IS THE sha256 OF THE DUMP (.gsa) THAT YtclicecopbgagaaProg.lean LOADS. Nothing in Lean hashes anything: it is a label: what it is worth is what the hold of that sum in a sandbox is worth. -/
noncomputable def Try.pinned : Pinned := { name := "ytclicecopbgagaa", sum := "d622e2b78942186245385e55e1f5a336925d77ecad4c60a2b7156919f4a32e12", checked := Try.checked }
namespace Rows
def none {H : Type} : Left H := { results := [], args := [] }

/-- 'campanilelaw04.ClockFrames': WHATEVER THE INPUT: true; the input reads as it did. -/
def clockFramesSpec : ChangeSpec := { name := "clockFrames", fn := fun _ => fun
  | [d1, d2, d3, d4] => { results := [.lit (.bool true)], args := [d1, d2, d3, d4] }
  | _ => none }
def clockFramesRow : OpenClaim := { program := "ytclicecopbgagaa", sum := "d622e2b78942186245385e55e1f5a336925d77ecad4c60a2b7156919f4a32e12", func := "campanile/campanilelaw04.ClockFrames", spec := "clockFrames", unfollowed := true, recurses := true, apart := false }
def ClockFramesSaid : Prop := clockFramesRow.holds Try.pinned (OpenSpec.ofChange clockFramesSpec)

/-- ITS FALSE NEIGHBOUR: 'it returns false'. Refute it at one input. -/
def clockFramesWrong : ChangeSpec := { name := "clockFrames", fn := fun _ => fun
  | [d1, d2, d3, d4] => { results := [.lit (.bool false)], args := [d1, d2, d3, d4] }
  | _ => none }
def ClockFramesWrongFalsely : Prop := clockFramesRow.holds Try.pinned (OpenSpec.ofChange clockFramesWrong)

/-- 'campanilelaw04.ClockNext': WHATEVER THE INPUT: true; the input reads as it did. -/
def clockNextSpec : ChangeSpec := { name := "clockNext", fn := fun _ => fun
  | [d1, d2, d3] => { results := [.lit (.bool true)], args := [d1, d2, d3] }
  | _ => none }
def clockNextRow : OpenClaim := { program := "ytclicecopbgagaa", sum := "d622e2b78942186245385e55e1f5a336925d77ecad4c60a2b7156919f4a32e12", func := "campanile/campanilelaw04.ClockNext", spec := "clockNext", unfollowed := true, recurses := true, apart := false }
def ClockNextSaid : Prop := clockNextRow.holds Try.pinned (OpenSpec.ofChange clockNextSpec)

/-- ITS FALSE NEIGHBOUR: 'it returns false'. Refute it at one input. -/
def clockNextWrong : ChangeSpec := { name := "clockNext", fn := fun _ => fun
  | [d1, d2, d3] => { results := [.lit (.bool false)], args := [d1, d2, d3] }
  | _ => none }
def ClockNextWrongFalsely : Prop := clockNextRow.holds Try.pinned (OpenSpec.ofChange clockNextWrong)

/-- 'campanilelaw04.ClockNths': WHATEVER THE INPUT: true; the input reads as it did. -/
def clockNthsSpec : ChangeSpec := { name := "clockNths", fn := fun _ => fun
  | [d1, d2, d3, d4] => { results := [.lit (.bool true)], args := [d1, d2, d3, d4] }
  | _ => none }
def clockNthsRow : OpenClaim := { program := "ytclicecopbgagaa", sum := "d622e2b78942186245385e55e1f5a336925d77ecad4c60a2b7156919f4a32e12", func := "campanile/campanilelaw04.ClockNths", spec := "clockNths", unfollowed := true, recurses := true, apart := false }
def ClockNthsSaid : Prop := clockNthsRow.holds Try.pinned (OpenSpec.ofChange clockNthsSpec)

/-- ITS FALSE NEIGHBOUR: 'it returns false'. Refute it at one input. -/
def clockNthsWrong : ChangeSpec := { name := "clockNths", fn := fun _ => fun
  | [d1, d2, d3, d4] => { results := [.lit (.bool false)], args := [d1, d2, d3, d4] }
  | _ => none }
def ClockNthsWrongFalsely : Prop := clockNthsRow.holds Try.pinned (OpenSpec.ofChange clockNthsWrong)

/-- 'campanilelaw04.ClockCounts': WHATEVER THE INPUT: true; the input reads as it did. -/
def clockCountsSpec : ChangeSpec := { name := "clockCounts", fn := fun _ => fun
  | [d1, d2, d3] => { results := [.lit (.bool true)], args := [d1, d2, d3] }
  | _ => none }
def clockCountsRow : OpenClaim := { program := "ytclicecopbgagaa", sum := "d622e2b78942186245385e55e1f5a336925d77ecad4c60a2b7156919f4a32e12", func := "campanile/campanilelaw04.ClockCounts", spec := "clockCounts", unfollowed := true, recurses := true, apart := false }
def ClockCountsSaid : Prop := clockCountsRow.holds Try.pinned (OpenSpec.ofChange clockCountsSpec)

/-- ITS FALSE NEIGHBOUR: 'it returns false'. Refute it at one input. -/
def clockCountsWrong : ChangeSpec := { name := "clockCounts", fn := fun _ => fun
  | [d1, d2, d3] => { results := [.lit (.bool false)], args := [d1, d2, d3] }
  | _ => none }
def ClockCountsWrongFalsely : Prop := clockCountsRow.holds Try.pinned (OpenSpec.ofChange clockCountsWrong)

/- THE SECOND FORM. 'bulk': how many values and letters a reading holds, each counted each time it is reached (what is shared counts as often as it is met; a slice's spare places count too). A statement '..UptoSaid' is the law's where the arguments, and the package variables that the reading takes, are together of bulk at most 1048576: NARROWER than '..Said'. Prove '..Said' where nothing that the law and all that it calls make is longer than what came in: it says more and counts as full. Else prove '..UptoSaid'. A law counts once. -/
mutual
def uptoBulk {H : Type} : DataW H → Nat
  | .lit (.string bytes) => bytes.length + 1
  | .lit _ => 1
  | .nil => 1
  | .ptr d => uptoBulk d + 1
  | .slice elems spare => uptoBulkAll elems + uptoBulkAll spare + 1
  | .agg parts => uptoBulkAll parts + 1
  | .iface _ d => uptoBulk d + 1
  | .map entries => uptoBulkEntries entries + 1
  | .held _ => 1
def uptoBulkAll {H : Type} : List (DataW H) → Nat
  | [] => 0
  | d :: r => uptoBulk d + uptoBulkAll r
def uptoBulkEntries {H : Type} : List (Lit × DataW H) → Nat
  | [] => 0
  | x :: r => uptoBulkEntry x + uptoBulkEntries r
def uptoBulkEntry {H : Type} : Lit × DataW H → Nat
  | (.string bytes, d) => bytes.length + uptoBulk d + 1
  | (_, d) => uptoBulk d + 1
 end
def uptoSmall : (H : Type) → List (DataW H) → Bool := fun _ ds => decide (uptoBulkAll ds ≤ 1048576)
def OpenSpec.upto (s : _root_.Go.ChangeSpec) : _root_.Go.OpenSpec := { _root_.Go.OpenSpec.ofChange s with cond := some uptoSmall }

/-- 'campanilelaw04.ClockFrames', WHERE WHAT IT READS IS OF BULK AT MOST 1048576: true; the input reads as it did. -/
def clockFramesUptoRow : OpenClaim := { program := "ytclicecopbgagaa", sum := "d622e2b78942186245385e55e1f5a336925d77ecad4c60a2b7156919f4a32e12", func := "campanile/campanilelaw04.ClockFrames", spec := "clockFrames", unfollowed := true, recurses := true, apart := false, narrowed := true }
def ClockFramesUptoSaid : Prop := clockFramesUptoRow.holds Try.pinned (OpenSpec.upto clockFramesSpec)

/-- 'campanilelaw04.ClockNext', WHERE WHAT IT READS IS OF BULK AT MOST 1048576: true; the input reads as it did. -/
def clockNextUptoRow : OpenClaim := { program := "ytclicecopbgagaa", sum := "d622e2b78942186245385e55e1f5a336925d77ecad4c60a2b7156919f4a32e12", func := "campanile/campanilelaw04.ClockNext", spec := "clockNext", unfollowed := true, recurses := true, apart := false, narrowed := true }
def ClockNextUptoSaid : Prop := clockNextUptoRow.holds Try.pinned (OpenSpec.upto clockNextSpec)

/-- 'campanilelaw04.ClockNths', WHERE WHAT IT READS IS OF BULK AT MOST 1048576: true; the input reads as it did. -/
def clockNthsUptoRow : OpenClaim := { program := "ytclicecopbgagaa", sum := "d622e2b78942186245385e55e1f5a336925d77ecad4c60a2b7156919f4a32e12", func := "campanile/campanilelaw04.ClockNths", spec := "clockNths", unfollowed := true, recurses := true, apart := false, narrowed := true }
def ClockNthsUptoSaid : Prop := clockNthsUptoRow.holds Try.pinned (OpenSpec.upto clockNthsSpec)

/-- 'campanilelaw04.ClockCounts', WHERE WHAT IT READS IS OF BULK AT MOST 1048576: true; the input reads as it did. -/
def clockCountsUptoRow : OpenClaim := { program := "ytclicecopbgagaa", sum := "d622e2b78942186245385e55e1f5a336925d77ecad4c60a2b7156919f4a32e12", func := "campanile/campanilelaw04.ClockCounts", spec := "clockCounts", unfollowed := true, recurses := true, apart := false, narrowed := true }
def ClockCountsUptoSaid : Prop := clockCountsUptoRow.holds Try.pinned (OpenSpec.upto clockCountsSpec)

end Rows
end Go.Proofs.Ytclicecopbgagaa
