/-
  No cell of these rows narrows 'for every input' (looked for: loops, veiled, ifaces, maps, wideKeys, modest, calm, conditions, laid).
  DERIVED. THE GIVEN ROWS OF THIS SEAT. 6 by the template 'for every input the law returns true; each argument reads behind the call as it read before'; 0 by the template 'total and deterministic' (their statements: YtmbdngkplfolcaaTotals.lean).
  GIVEN WITH THE SEED: the statements are not yours to turn. If you find one false, say at which input.
  Laid BY PROGRAM, IN A SANDBOX (cutbox-rows.mjs): the forced cells as the released guide's own fill.sh prints them over the translation 0f2f06929c6cbdd9… (all of the seat's roots in one cut). By AI agents, Wed Nov 11 2026. No macro, syntax, notation, axiom, sorry.
-/
import Derived.Test.YtmbdngkplfolcaaChecked
import GoSem.Claim
import GoSem.ClaimJoined
import GoSem.ClaimMapViews
import Derived.JoinedTies
import Derived.KernelRfl
namespace Go.Proofs.Ytmbdngkplfolcaa
/- THE CELL 'sum', in the pinned program and in every row, IS THE sha256 OF THE DUMP (.gsa) THAT YtmbdngkplfolcaaProg.lean LOADS. Nothing in Lean hashes anything: it is a label: what it is worth is what the hold of that sum in a sandbox is worth. -/
noncomputable def Try.pinned : Pinned := { name := "ytmbdngkplfolcaa", sum := "0f2f06929c6cbdd936be3ab6b04feaf29d5acb8c13a18fdf73b7d9378fb89852", checked := Try.checked }
namespace Rows
def none {H : Type} : Left H := { results := [], args := [] }

/-- 'campanilelaw01.SpanSorts': WHATEVER THE INPUT: true; the input reads as it did. -/
def spanSortsSpec : ChangeSpec := { name := "spanSorts", fn := fun _ => fun
  | [d] => { results := [.lit (.bool true)], args := [d] }
  | _ => none }
def spanSortsRow : OpenClaim := { program := "ytmbdngkplfolcaa", sum := "0f2f06929c6cbdd936be3ab6b04feaf29d5acb8c13a18fdf73b7d9378fb89852", func := "campanile/campanilelaw01.SpanSorts", spec := "spanSorts", unfollowed := true, recurses := true, apart := false }
def SpanSortsSaid : Prop := spanSortsRow.holds Try.pinned (OpenSpec.ofChange spanSortsSpec)

/-- ITS FALSE NEIGHBOUR: 'it returns false'. Refute it at one input. -/
def spanSortsWrong : ChangeSpec := { name := "spanSorts", fn := fun _ => fun
  | [d] => { results := [.lit (.bool false)], args := [d] }
  | _ => none }
def SpanSortsWrongFalsely : Prop := spanSortsRow.holds Try.pinned (OpenSpec.ofChange spanSortsWrong)

/-- 'campanilelaw01.SpanMerges': WHATEVER THE INPUT: true; the input reads as it did. -/
def spanMergesSpec : ChangeSpec := { name := "spanMerges", fn := fun _ => fun
  | [d] => { results := [.lit (.bool true)], args := [d] }
  | _ => none }
def spanMergesRow : OpenClaim := { program := "ytmbdngkplfolcaa", sum := "0f2f06929c6cbdd936be3ab6b04feaf29d5acb8c13a18fdf73b7d9378fb89852", func := "campanile/campanilelaw01.SpanMerges", spec := "spanMerges", unfollowed := true, recurses := true, apart := false }
def SpanMergesSaid : Prop := spanMergesRow.holds Try.pinned (OpenSpec.ofChange spanMergesSpec)

/-- ITS FALSE NEIGHBOUR: 'it returns false'. Refute it at one input. -/
def spanMergesWrong : ChangeSpec := { name := "spanMerges", fn := fun _ => fun
  | [d] => { results := [.lit (.bool false)], args := [d] }
  | _ => none }
def SpanMergesWrongFalsely : Prop := spanMergesRow.holds Try.pinned (OpenSpec.ofChange spanMergesWrong)

/-- 'campanilelaw01.SpanMeets': WHATEVER THE INPUT: true; the input reads as it did. -/
def spanMeetsSpec : ChangeSpec := { name := "spanMeets", fn := fun _ => fun
  | [d1, d2, d3] => { results := [.lit (.bool true)], args := [d1, d2, d3] }
  | _ => none }
def spanMeetsRow : OpenClaim := { program := "ytmbdngkplfolcaa", sum := "0f2f06929c6cbdd936be3ab6b04feaf29d5acb8c13a18fdf73b7d9378fb89852", func := "campanile/campanilelaw01.SpanMeets", spec := "spanMeets", unfollowed := true, recurses := true, apart := false }
def SpanMeetsSaid : Prop := spanMeetsRow.holds Try.pinned (OpenSpec.ofChange spanMeetsSpec)

/-- ITS FALSE NEIGHBOUR: 'it returns false'. Refute it at one input. -/
def spanMeetsWrong : ChangeSpec := { name := "spanMeets", fn := fun _ => fun
  | [d1, d2, d3] => { results := [.lit (.bool false)], args := [d1, d2, d3] }
  | _ => none }
def SpanMeetsWrongFalsely : Prop := spanMeetsRow.holds Try.pinned (OpenSpec.ofChange spanMeetsWrong)

/-- 'campanilelaw01.SpanGaps': WHATEVER THE INPUT: true; the input reads as it did. -/
def spanGapsSpec : ChangeSpec := { name := "spanGaps", fn := fun _ => fun
  | [d1, d2] => { results := [.lit (.bool true)], args := [d1, d2] }
  | _ => none }
def spanGapsRow : OpenClaim := { program := "ytmbdngkplfolcaa", sum := "0f2f06929c6cbdd936be3ab6b04feaf29d5acb8c13a18fdf73b7d9378fb89852", func := "campanile/campanilelaw01.SpanGaps", spec := "spanGaps", unfollowed := true, recurses := true, apart := false }
def SpanGapsSaid : Prop := spanGapsRow.holds Try.pinned (OpenSpec.ofChange spanGapsSpec)

/-- ITS FALSE NEIGHBOUR: 'it returns false'. Refute it at one input. -/
def spanGapsWrong : ChangeSpec := { name := "spanGaps", fn := fun _ => fun
  | [d1, d2] => { results := [.lit (.bool false)], args := [d1, d2] }
  | _ => none }
def SpanGapsWrongFalsely : Prop := spanGapsRow.holds Try.pinned (OpenSpec.ofChange spanGapsWrong)

/-- 'campanilelaw01.SpanApart': WHATEVER THE INPUT: true; the input reads as it did. -/
def spanApartSpec : ChangeSpec := { name := "spanApart", fn := fun _ => fun
  | [d] => { results := [.lit (.bool true)], args := [d] }
  | _ => none }
def spanApartRow : OpenClaim := { program := "ytmbdngkplfolcaa", sum := "0f2f06929c6cbdd936be3ab6b04feaf29d5acb8c13a18fdf73b7d9378fb89852", func := "campanile/campanilelaw01.SpanApart", spec := "spanApart", unfollowed := true, recurses := true, apart := false }
def SpanApartSaid : Prop := spanApartRow.holds Try.pinned (OpenSpec.ofChange spanApartSpec)

/-- ITS FALSE NEIGHBOUR: 'it returns false'. Refute it at one input. -/
def spanApartWrong : ChangeSpec := { name := "spanApart", fn := fun _ => fun
  | [d] => { results := [.lit (.bool false)], args := [d] }
  | _ => none }
def SpanApartWrongFalsely : Prop := spanApartRow.holds Try.pinned (OpenSpec.ofChange spanApartWrong)

/-- 'campanilelaw01.SpanTotals': WHATEVER THE INPUT: true; the input reads as it did. -/
def spanTotalsSpec : ChangeSpec := { name := "spanTotals", fn := fun _ => fun
  | [d] => { results := [.lit (.bool true)], args := [d] }
  | _ => none }
def spanTotalsRow : OpenClaim := { program := "ytmbdngkplfolcaa", sum := "0f2f06929c6cbdd936be3ab6b04feaf29d5acb8c13a18fdf73b7d9378fb89852", func := "campanile/campanilelaw01.SpanTotals", spec := "spanTotals", unfollowed := true, recurses := true, apart := false }
def SpanTotalsSaid : Prop := spanTotalsRow.holds Try.pinned (OpenSpec.ofChange spanTotalsSpec)

/-- ITS FALSE NEIGHBOUR: 'it returns false'. Refute it at one input. -/
def spanTotalsWrong : ChangeSpec := { name := "spanTotals", fn := fun _ => fun
  | [d] => { results := [.lit (.bool false)], args := [d] }
  | _ => none }
def SpanTotalsWrongFalsely : Prop := spanTotalsRow.holds Try.pinned (OpenSpec.ofChange spanTotalsWrong)

/- THE SECOND FORM. 'bulk': how many values and letters a reading holds, each counted each time it is reached (what is shared counts as often as it is met; a slice's spare places count too). A statement '..UptoSaid' is the law's where the arguments, and the package variables that the reading takes, are together of bulk at most 1048576: NARROWER than '..Said'. Prove '..Said' where nothing that the law and all that it calls make is longer than what came in: it says more and counts as full. Else prove '..UptoSaid'. A law counts once. -/
mutual
def uptoBulk {H : Type} : DataW H → Nat
  | .lit (.string bytes) => bytes.length + 1
  | .lit _ => 1
  | .nil => 1
  | .ptr d => uptoBulk d + 1
  | .slice elems spare => uptoBulkAll elems + uptoBulkAll spare + 1
  | .agg parts => uptoBulkAll parts + 1
  | .iface _ d => uptoBulk d + 1
  | .map entries => uptoBulkEntries entries + 1
  | .held _ => 1
def uptoBulkAll {H : Type} : List (DataW H) → Nat
  | [] => 0
  | d :: r => uptoBulk d + uptoBulkAll r
def uptoBulkEntries {H : Type} : List (Lit × DataW H) → Nat
  | [] => 0
  | x :: r => uptoBulkEntry x + uptoBulkEntries r
def uptoBulkEntry {H : Type} : Lit × DataW H → Nat
  | (.string bytes, d) => bytes.length + uptoBulk d + 1
  | (_, d) => uptoBulk d + 1
 end
def uptoSmall : (H : Type) → List (DataW H) → Bool := fun _ ds => decide (uptoBulkAll ds ≤ 1048576)
def OpenSpec.upto (s : _root_.Go.ChangeSpec) : _root_.Go.OpenSpec := { _root_.Go.OpenSpec.ofChange s with cond := some uptoSmall }

/-- 'campanilelaw01.SpanSorts', WHERE WHAT IT READS IS OF BULK AT MOST 1048576: true; the input reads as it did. -/
def spanSortsUptoRow : OpenClaim := { program := "ytmbdngkplfolcaa", sum := "0f2f06929c6cbdd936be3ab6b04feaf29d5acb8c13a18fdf73b7d9378fb89852", func := "campanile/campanilelaw01.SpanSorts", spec := "spanSorts", unfollowed := true, recurses := true, apart := false, narrowed := true }
def SpanSortsUptoSaid : Prop := spanSortsUptoRow.holds Try.pinned (OpenSpec.upto spanSortsSpec)

/-- 'campanilelaw01.SpanMerges', WHERE WHAT IT READS IS OF BULK AT MOST 1048576: true; the input reads as it did. -/
def spanMergesUptoRow : OpenClaim := { program := "ytmbdngkplfolcaa", sum := "0f2f06929c6cbdd936be3ab6b04feaf29d5acb8c13a18fdf73b7d9378fb89852", func := "campanile/campanilelaw01.SpanMerges", spec := "spanMerges", unfollowed := true, recurses := true, apart := false, narrowed := true }
def SpanMergesUptoSaid : Prop := spanMergesUptoRow.holds Try.pinned (OpenSpec.upto spanMergesSpec)

/-- 'campanilelaw01.SpanMeets', WHERE WHAT IT READS IS OF BULK AT MOST 1048576: true; the input reads as it did. -/
def spanMeetsUptoRow : OpenClaim := { program := "ytmbdngkplfolcaa", sum := "0f2f06929c6cbdd936be3ab6b04feaf29d5acb8c13a18fdf73b7d9378fb89852", func := "campanile/campanilelaw01.SpanMeets", spec := "spanMeets", unfollowed := true, recurses := true, apart := false, narrowed := true }
def SpanMeetsUptoSaid : Prop := spanMeetsUptoRow.holds Try.pinned (OpenSpec.upto spanMeetsSpec)

/-- 'campanilelaw01.SpanGaps', WHERE WHAT IT READS IS OF BULK AT MOST 1048576: true; the input reads as it did. -/
def spanGapsUptoRow : OpenClaim := { program := "ytmbdngkplfolcaa", sum := "0f2f06929c6cbdd936be3ab6b04feaf29d5acb8c13a18fdf73b7d9378fb89852", func := "campanile/campanilelaw01.SpanGaps", spec := "spanGaps", unfollowed := true, recurses := true, apart := false, narrowed := true }
def SpanGapsUptoSaid : Prop := spanGapsUptoRow.holds Try.pinned (OpenSpec.upto spanGapsSpec)

/-- 'campanilelaw01.SpanApart', WHERE WHAT IT READS IS OF BULK AT MOST 1048576: true; the input reads as it did. -/
def spanApartUptoRow : OpenClaim := { program := "ytmbdngkplfolcaa", sum := "0f2f06929c6cbdd936be3ab6b04feaf29d5acb8c13a18fdf73b7d9378fb89852", func := "campanile/campanilelaw01.SpanApart", spec := "spanApart", unfollowed := true, recurses := true, apart := false, narrowed := true }
def SpanApartUptoSaid : Prop := spanApartUptoRow.holds Try.pinned (OpenSpec.upto spanApartSpec)

/-- 'campanilelaw01.SpanTotals', WHERE WHAT IT READS IS OF BULK AT MOST 1048576: true; the input reads as it did. -/
def spanTotalsUptoRow : OpenClaim := { program := "ytmbdngkplfolcaa", sum := "0f2f06929c6cbdd936be3ab6b04feaf29d5acb8c13a18fdf73b7d9378fb89852", func := "campanile/campanilelaw01.SpanTotals", spec := "spanTotals", unfollowed := true, recurses := true, apart := false, narrowed := true }
def SpanTotalsUptoSaid : Prop := spanTotalsUptoRow.holds Try.pinned (OpenSpec.upto spanTotalsSpec)

end Rows
end Go.Proofs.Ytmbdngkplfolcaa
