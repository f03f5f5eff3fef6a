/- The clock: contracts. -/
import Derived.Test.YtabonallopdgdaaClockN
set_option linter.all false
namespace Go.Proofs
open Go.Eng
set_option linter.unusedVariables false
set_option maxRecDepth 100000
set_option maxHeartbeats 800000
abbrev n64 (n : Int) : Value := .int .i64 n
abbrev atOk (k o f : Int) : Prop := okF f ∧ 0 ≤ k ∧ k ≤ 2147483647 ∧ 0 ≤ o ∧ o < f
abbrev nextOk (t o f : Int) : Prop := okF f ∧ 0 ≤ o ∧ o < f ∧ t ≤ 2147483647
/-! counts -/
abbrev cntOk (s1 s2 o1 o2 f : Int) : Prop := okF f ∧ isS s1 s2 ∧ s2 ≤ 2147483647 ∧ meetS o1 o2 0 f
end Go.Proofs
