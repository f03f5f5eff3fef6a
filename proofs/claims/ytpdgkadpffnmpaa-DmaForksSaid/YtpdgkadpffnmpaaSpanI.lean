/- Spans: the gaps. -/
import Derived.Test.YtpdgkadpffnmpaaSpanH
set_option linter.all false
namespace Go.Proofs
open Go.Eng
set_option linter.unusedVariables false
set_option maxRecDepth 100000
set_option maxHeartbeats 600000

/-- where the last span that was seen ends -/
def atF (M : List Sp) : Nat → Int
  | 0 => 0
  | k + 1 => (M.getD k spE.d).2
theorem atF_pos {M : List Sp} {k : Nat} (h : 0 < k) : atF M k = (M.getD (k - 1) spE.d).2 := by
  cases k with
  | zero => omega
  | succ k => rfl
theorem canon_lt {M : List Sp} (hM : Canon M) {i j : Nat} (hij : i < j) (hj : j < M.length) : (M.getD i spE.d).2 < (M.getD j spE.d).1 := by
  have := List.pairwise_iff_getElem.1 hM.ap i j (by omega) hj hij
  simpa [List.getD, hj, show i < M.length from by omega] using this
end Go.Proofs
