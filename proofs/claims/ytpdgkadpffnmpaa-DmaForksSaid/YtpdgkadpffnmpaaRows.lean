/-
  No cell of these rows narrows 'for every input' (looked for: loops, veiled, ifaces, maps, wideKeys, modest, calm, conditions, laid).
  DERIVED. THE GIVEN ROWS OF THIS SEAT. 3 by the template 'for every input the law returns true; each argument reads behind the call as it read before'; 0 by the template 'total and deterministic' (their statements: YtpdgkadpffnmpaaTotals.lean).
  GIVEN WITH THE SEED: the statements are not yours to turn. If you find one false, say at which input.
  Laid BY PROGRAM, IN A SANDBOX (cutbox-rows.mjs): the forced cells as the released guide's own fill.sh prints them over the translation ddec4fa90594af90… (all of the seat's roots in one cut). By AI agents, Wed Nov 11 2026. No macro, syntax, notation, axiom, sorry.
-/
import Derived.Test.YtpdgkadpffnmpaaChecked
import GoSem.Claim
import GoSem.ClaimJoined
import GoSem.ClaimMapViews
import Derived.JoinedTies
import Derived.KernelRfl
namespace Go.Proofs.Ytpdgkadpffnmpaa
/- THE CELL 'sum', in the pinned program and in every row, IS THE sha256 OF THE DUMP (.gsa) THAT YtpdgkadpffnmpaaProg.lean LOADS. Nothing in Lean hashes anything: it is a label: what it is worth is what the hold of that sum in a sandbox is worth. -/
noncomputable def Try.pinned : Pinned := { name := "ytpdgkadpffnmpaa", sum := "ddec4fa90594af9090953057160e6978433b95ba58223139208e9c42a7f4b924", checked := Try.checked }
namespace Rows
def none {H : Type} : Left H := { results := [], args := [] }

/-- 'campanilelaw06.DmaPlays': WHATEVER THE INPUT: true; the input reads as it did. -/
def dmaPlaysSpec : ChangeSpec := { name := "dmaPlays", fn := fun _ => fun
  | [d1, d2, d3] => { results := [.lit (.bool true)], args := [d1, d2, d3] }
  | _ => none }
def dmaPlaysRow : OpenClaim := { program := "ytpdgkadpffnmpaa", sum := "ddec4fa90594af9090953057160e6978433b95ba58223139208e9c42a7f4b924", func := "campanile/campanilelaw06.DmaPlays", spec := "dmaPlays", unfollowed := true, recurses := true, apart := false }
def DmaPlaysSaid : Prop := dmaPlaysRow.holds Try.pinned (OpenSpec.ofChange dmaPlaysSpec)

/-- ITS FALSE NEIGHBOUR: 'it returns false'. Refute it at one input. -/
def dmaPlaysWrong : ChangeSpec := { name := "dmaPlays", fn := fun _ => fun
  | [d1, d2, d3] => { results := [.lit (.bool false)], args := [d1, d2, d3] }
  | _ => none }
def DmaPlaysWrongFalsely : Prop := dmaPlaysRow.holds Try.pinned (OpenSpec.ofChange dmaPlaysWrong)

/-- 'campanilelaw06.DmaStays': WHATEVER THE INPUT: true; the input reads as it did. -/
def dmaStaysSpec : ChangeSpec := { name := "dmaStays", fn := fun _ => fun
  | [d1, d2, d3] => { results := [.lit (.bool true)], args := [d1, d2, d3] }
  | _ => none }
def dmaStaysRow : OpenClaim := { program := "ytpdgkadpffnmpaa", sum := "ddec4fa90594af9090953057160e6978433b95ba58223139208e9c42a7f4b924", func := "campanile/campanilelaw06.DmaStays", spec := "dmaStays", unfollowed := true, recurses := true, apart := false }
def DmaStaysSaid : Prop := dmaStaysRow.holds Try.pinned (OpenSpec.ofChange dmaStaysSpec)

/-- ITS FALSE NEIGHBOUR: 'it returns false'. Refute it at one input. -/
def dmaStaysWrong : ChangeSpec := { name := "dmaStays", fn := fun _ => fun
  | [d1, d2, d3] => { results := [.lit (.bool false)], args := [d1, d2, d3] }
  | _ => none }
def DmaStaysWrongFalsely : Prop := dmaStaysRow.holds Try.pinned (OpenSpec.ofChange dmaStaysWrong)

/-- 'campanilelaw06.DmaForks': WHATEVER THE INPUT: true; the input reads as it did. -/
def dmaForksSpec : ChangeSpec := { name := "dmaForks", fn := fun _ => fun
  | [d1, d2, d3] => { results := [.lit (.bool true)], args := [d1, d2, d3] }
  | _ => none }
def dmaForksRow : OpenClaim := { program := "ytpdgkadpffnmpaa", sum := "ddec4fa90594af9090953057160e6978433b95ba58223139208e9c42a7f4b924", func := "campanile/campanilelaw06.DmaForks", spec := "dmaForks", unfollowed := true, recurses := true, apart := false }
def DmaForksSaid : Prop := dmaForksRow.holds Try.pinned (OpenSpec.ofChange dmaForksSpec)

/-- ITS FALSE NEIGHBOUR: 'it returns false'. Refute it at one input. -/
def dmaForksWrong : ChangeSpec := { name := "dmaForks", fn := fun _ => fun
  | [d1, d2, d3] => { results := [.lit (.bool false)], args := [d1, d2, d3] }
  | _ => none }
def DmaForksWrongFalsely : Prop := dmaForksRow.holds Try.pinned (OpenSpec.ofChange dmaForksWrong)

/- THE SECOND FORM. 'bulk': how many values and letters a reading holds, each counted each time it is reached (what is shared counts as often as it is met; a slice's spare places count too). A statement '..UptoSaid' is the law's where the arguments, and the package variables that the reading takes, are together of bulk at most 1048576: NARROWER than '..Said'. Prove '..Said' where nothing that the law and all that it calls make is longer than what came in: it says more and counts as full. Else prove '..UptoSaid'. A law counts once. -/
mutual
def uptoBulk {H : Type} : DataW H → Nat
  | .lit (.string bytes) => bytes.length + 1
  | .lit _ => 1
  | .nil => 1
  | .ptr d => uptoBulk d + 1
  | .slice elems spare => uptoBulkAll elems + uptoBulkAll spare + 1
  | .agg parts => uptoBulkAll parts + 1
  | .iface _ d => uptoBulk d + 1
  | .map entries => uptoBulkEntries entries + 1
  | .held _ => 1
def uptoBulkAll {H : Type} : List (DataW H) → Nat
  | [] => 0
  | d :: r => uptoBulk d + uptoBulkAll r
def uptoBulkEntries {H : Type} : List (Lit × DataW H) → Nat
  | [] => 0
  | x :: r => uptoBulkEntry x + uptoBulkEntries r
def uptoBulkEntry {H : Type} : Lit × DataW H → Nat
  | (.string bytes, d) => bytes.length + uptoBulk d + 1
  | (_, d) => uptoBulk d + 1
 end
def uptoSmall : (H : Type) → List (DataW H) → Bool := fun _ ds => decide (uptoBulkAll ds ≤ 1048576)
def OpenSpec.upto (s : _root_.Go.ChangeSpec) : _root_.Go.OpenSpec := { _root_.Go.OpenSpec.ofChange s with cond := some uptoSmall }

/-- 'campanilelaw06.DmaPlays', WHERE WHAT IT READS IS OF BULK AT MOST 1048576: true; the input reads as it did. -/
def dmaPlaysUptoRow : OpenClaim := { program := "ytpdgkadpffnmpaa", sum := "ddec4fa90594af9090953057160e6978433b95ba58223139208e9c42a7f4b924", func := "campanile/campanilelaw06.DmaPlays", spec := "dmaPlays", unfollowed := true, recurses := true, apart := false, narrowed := true }
def DmaPlaysUptoSaid : Prop := dmaPlaysUptoRow.holds Try.pinned (OpenSpec.upto dmaPlaysSpec)

/-- 'campanilelaw06.DmaStays', WHERE WHAT IT READS IS OF BULK AT MOST 1048576: true; the input reads as it did. -/
def dmaStaysUptoRow : OpenClaim := { program := "ytpdgkadpffnmpaa", sum := "ddec4fa90594af9090953057160e6978433b95ba58223139208e9c42a7f4b924", func := "campanile/campanilelaw06.DmaStays", spec := "dmaStays", unfollowed := true, recurses := true, apart := false, narrowed := true }
def DmaStaysUptoSaid : Prop := dmaStaysUptoRow.holds Try.pinned (OpenSpec.upto dmaStaysSpec)

/-- 'campanilelaw06.DmaForks', WHERE WHAT IT READS IS OF BULK AT MOST 1048576: true; the input reads as it did. -/
def dmaForksUptoRow : OpenClaim := { program := "ytpdgkadpffnmpaa", sum := "ddec4fa90594af9090953057160e6978433b95ba58223139208e9c42a7f4b924", func := "campanile/campanilelaw06.DmaForks", spec := "dmaForks", unfollowed := true, recurses := true, apart := false, narrowed := true }
def DmaForksUptoSaid : Prop := dmaForksUptoRow.holds Try.pinned (OpenSpec.upto dmaForksSpec)

end Rows
end Go.Proofs.Ytpdgkadpffnmpaa
