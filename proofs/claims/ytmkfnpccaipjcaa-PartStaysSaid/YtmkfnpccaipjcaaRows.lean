/-
  No cell of these rows narrows 'for every input' (looked for: loops, veiled, ifaces, maps, wideKeys, modest, calm, conditions, laid).
  DERIVED. THE GIVEN ROWS OF THIS SEAT. 4 by the template 'for every input the law returns true; each argument reads behind the call as it read before'; 0 by the template 'total and deterministic' (their statements: YtmkfnpccaipjcaaTotals.lean).
  GIVEN WITH THE SEED: the statements are not yours to turn. If you find one false, say at which input.
  Laid BY PROGRAM, IN A SANDBOX (cutbox-rows.mjs): the forced cells as the released guide's own fill.sh prints them over the translation 838ea7edc80e832d… (all of the seat's roots in one cut). By AI agents, Wed Nov 11 2026. No macro, syntax, notation, axiom, sorry.
-/
import Derived.Test.YtmkfnpccaipjcaaChecked
import GoSem.Claim
import GoSem.ClaimJoined
import GoSem.ClaimMapViews
import Derived.JoinedTies
import Derived.KernelRfl
namespace Go.Proofs.Ytmkfnpccaipjcaa
/- THE CELL 'sum', in the pinned program and in every row, IS THE sha256 OF THE DUMP (.gsa) THAT YtmkfnpccaipjcaaProg.lean LOADS. Nothing in Lean hashes anything: it is a label: what it is worth is what the hold of that sum in a sandbox is worth. -/
noncomputable def Try.pinned : Pinned := { name := "ytmkfnpccaipjcaa", sum := "838ea7edc80e832d088499ecf16072fe97e3cb078dff991e83589ef5a868753a", checked := Try.checked }
namespace Rows
def none {H : Type} : Left H := { results := [], args := [] }

/-- 'campanilelaw27.PartResults': WHATEVER THE INPUT: true; the input reads as it did. -/
def partResultsSpec : ChangeSpec := { name := "partResults", fn := fun _ => fun
  | [d1, d2] => { results := [.lit (.bool true)], args := [d1, d2] }
  | _ => none }
def partResultsRow : OpenClaim := { program := "ytmkfnpccaipjcaa", sum := "838ea7edc80e832d088499ecf16072fe97e3cb078dff991e83589ef5a868753a", func := "campanile/campanilelaw27.PartResults", spec := "partResults", apart := false }
def PartResultsSaid : Prop := partResultsRow.holds Try.pinned (OpenSpec.ofChange partResultsSpec)

/-- ITS FALSE NEIGHBOUR: 'it returns false'. Refute it at one input. -/
def partResultsWrong : ChangeSpec := { name := "partResults", fn := fun _ => fun
  | [d1, d2] => { results := [.lit (.bool false)], args := [d1, d2] }
  | _ => none }
def PartResultsWrongFalsely : Prop := partResultsRow.holds Try.pinned (OpenSpec.ofChange partResultsWrong)

/-- 'campanilelaw27.PartPlays': WHATEVER THE INPUT: true; the input reads as it did. -/
def partPlaysSpec : ChangeSpec := { name := "partPlays", fn := fun _ => fun
  | [d1, d2, d3] => { results := [.lit (.bool true)], args := [d1, d2, d3] }
  | _ => none }
def partPlaysRow : OpenClaim := { program := "ytmkfnpccaipjcaa", sum := "838ea7edc80e832d088499ecf16072fe97e3cb078dff991e83589ef5a868753a", func := "campanile/campanilelaw27.PartPlays", spec := "partPlays", apart := false }
def PartPlaysSaid : Prop := partPlaysRow.holds Try.pinned (OpenSpec.ofChange partPlaysSpec)

/-- ITS FALSE NEIGHBOUR: 'it returns false'. Refute it at one input. -/
def partPlaysWrong : ChangeSpec := { name := "partPlays", fn := fun _ => fun
  | [d1, d2, d3] => { results := [.lit (.bool false)], args := [d1, d2, d3] }
  | _ => none }
def PartPlaysWrongFalsely : Prop := partPlaysRow.holds Try.pinned (OpenSpec.ofChange partPlaysWrong)

/-- 'campanilelaw27.PartForks': WHATEVER THE INPUT: true; the input reads as it did. -/
def partForksSpec : ChangeSpec := { name := "partForks", fn := fun _ => fun
  | [d1, d2, d3] => { results := [.lit (.bool true)], args := [d1, d2, d3] }
  | _ => none }
def partForksRow : OpenClaim := { program := "ytmkfnpccaipjcaa", sum := "838ea7edc80e832d088499ecf16072fe97e3cb078dff991e83589ef5a868753a", func := "campanile/campanilelaw27.PartForks", spec := "partForks", apart := false }
def PartForksSaid : Prop := partForksRow.holds Try.pinned (OpenSpec.ofChange partForksSpec)

/-- ITS FALSE NEIGHBOUR: 'it returns false'. Refute it at one input. -/
def partForksWrong : ChangeSpec := { name := "partForks", fn := fun _ => fun
  | [d1, d2, d3] => { results := [.lit (.bool false)], args := [d1, d2, d3] }
  | _ => none }
def PartForksWrongFalsely : Prop := partForksRow.holds Try.pinned (OpenSpec.ofChange partForksWrong)

/-- 'campanilelaw27.PartStays': WHATEVER THE INPUT: true; the input reads as it did. -/
def partStaysSpec : ChangeSpec := { name := "partStays", fn := fun _ => fun
  | [d1, d2, d3, d4] => { results := [.lit (.bool true)], args := [d1, d2, d3, d4] }
  | _ => none }
def partStaysRow : OpenClaim := { program := "ytmkfnpccaipjcaa", sum := "838ea7edc80e832d088499ecf16072fe97e3cb078dff991e83589ef5a868753a", func := "campanile/campanilelaw27.PartStays", spec := "partStays", unfollowed := true, recurses := true, apart := false }
def PartStaysSaid : Prop := partStaysRow.holds Try.pinned (OpenSpec.ofChange partStaysSpec)

/-- ITS FALSE NEIGHBOUR: 'it returns false'. Refute it at one input. -/
def partStaysWrong : ChangeSpec := { name := "partStays", fn := fun _ => fun
  | [d1, d2, d3, d4] => { results := [.lit (.bool false)], args := [d1, d2, d3, d4] }
  | _ => none }
def PartStaysWrongFalsely : Prop := partStaysRow.holds Try.pinned (OpenSpec.ofChange partStaysWrong)

/- THE SECOND FORM. 'bulk': how many values and letters a reading holds, each counted each time it is reached (what is shared counts as often as it is met; a slice's spare places count too). A statement '..UptoSaid' is the law's where the arguments, and the package variables that the reading takes, are together of bulk at most 1048576: NARROWER than '..Said'. Prove '..Said' where nothing that the law and all that it calls make is longer than what came in: it says more and counts as full. Else prove '..UptoSaid'. A law counts once. -/
mutual
def uptoBulk {H : Type} : DataW H → Nat
  | .lit (.string bytes) => bytes.length + 1
  | .lit _ => 1
  | .nil => 1
  | .ptr d => uptoBulk d + 1
  | .slice elems spare => uptoBulkAll elems + uptoBulkAll spare + 1
  | .agg parts => uptoBulkAll parts + 1
  | .iface _ d => uptoBulk d + 1
  | .map entries => uptoBulkEntries entries + 1
  | .held _ => 1
def uptoBulkAll {H : Type} : List (DataW H) → Nat
  | [] => 0
  | d :: r => uptoBulk d + uptoBulkAll r
def uptoBulkEntries {H : Type} : List (Lit × DataW H) → Nat
  | [] => 0
  | x :: r => uptoBulkEntry x + uptoBulkEntries r
def uptoBulkEntry {H : Type} : Lit × DataW H → Nat
  | (.string bytes, d) => bytes.length + uptoBulk d + 1
  | (_, d) => uptoBulk d + 1
 end
def uptoSmall : (H : Type) → List (DataW H) → Bool := fun _ ds => decide (uptoBulkAll ds ≤ 1048576)
def OpenSpec.upto (s : _root_.Go.ChangeSpec) : _root_.Go.OpenSpec := { _root_.Go.OpenSpec.ofChange s with cond := some uptoSmall }

/-- 'campanilelaw27.PartResults', WHERE WHAT IT READS IS OF BULK AT MOST 1048576: true; the input reads as it did. -/
def partResultsUptoRow : OpenClaim := { program := "ytmkfnpccaipjcaa", sum := "838ea7edc80e832d088499ecf16072fe97e3cb078dff991e83589ef5a868753a", func := "campanile/campanilelaw27.PartResults", spec := "partResults", apart := false, narrowed := true }
def PartResultsUptoSaid : Prop := partResultsUptoRow.holds Try.pinned (OpenSpec.upto partResultsSpec)

/-- 'campanilelaw27.PartPlays', WHERE WHAT IT READS IS OF BULK AT MOST 1048576: true; the input reads as it did. -/
def partPlaysUptoRow : OpenClaim := { program := "ytmkfnpccaipjcaa", sum := "838ea7edc80e832d088499ecf16072fe97e3cb078dff991e83589ef5a868753a", func := "campanile/campanilelaw27.PartPlays", spec := "partPlays", apart := false, narrowed := true }
def PartPlaysUptoSaid : Prop := partPlaysUptoRow.holds Try.pinned (OpenSpec.upto partPlaysSpec)

/-- 'campanilelaw27.PartForks', WHERE WHAT IT READS IS OF BULK AT MOST 1048576: true; the input reads as it did. -/
def partForksUptoRow : OpenClaim := { program := "ytmkfnpccaipjcaa", sum := "838ea7edc80e832d088499ecf16072fe97e3cb078dff991e83589ef5a868753a", func := "campanile/campanilelaw27.PartForks", spec := "partForks", apart := false, narrowed := true }
def PartForksUptoSaid : Prop := partForksUptoRow.holds Try.pinned (OpenSpec.upto partForksSpec)

/-- 'campanilelaw27.PartStays', WHERE WHAT IT READS IS OF BULK AT MOST 1048576: true; the input reads as it did. -/
def partStaysUptoRow : OpenClaim := { program := "ytmkfnpccaipjcaa", sum := "838ea7edc80e832d088499ecf16072fe97e3cb078dff991e83589ef5a868753a", func := "campanile/campanilelaw27.PartStays", spec := "partStays", unfollowed := true, recurses := true, apart := false, narrowed := true }
def PartStaysUptoSaid : Prop := partStaysUptoRow.holds Try.pinned (OpenSpec.upto partStaysSpec)

end Rows
end Go.Proofs.Ytmkfnpccaipjcaa
