/- Spans: the document's rows, and the gaps. -/
import Derived.Test.YtabonallopdgdaaSpanF
import Derived.Test.YtabonallopdgdaaSpanG
set_option linter.all false
namespace Go.Proofs
open Go.Eng
set_option linter.unusedVariables false
set_option maxRecDepth 100000
set_option maxHeartbeats 600000

theorem runs_lenZ {k : Nat} {p : Int → Prop} {out : List Sp} (h : RunsOf k p out) : out.length ≤ k := runs_len h
end Go.Proofs
