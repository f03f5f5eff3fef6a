/- Spans: what must be whatever is asked; gaps; the document's rows. -/
import Derived.Test.YtabonallopdgdaaSpanE
set_option linter.all false
namespace Go.Proofs
open Go.Eng
set_option linter.unusedVariables false
set_option maxRecDepth 100000

theorem live_merge : mergeF [(5, 7), (1, 3), (3, 4)] = [(1, 4), (5, 7)] := by
  unfold mergeF
  rw [sortF_eq (ys := [(1, 3), (3, 4), (5, 7)]) ⟨by decide, by simp [Srt, leS, ltS]⟩]
  decide
theorem live_merge2 : mergeF [(1, 4), (5, 7)] = [(1, 4), (5, 7)] := by
  unfold mergeF
  rw [sortF_eq (ys := [(1, 4), (5, 7)]) ⟨by decide, by simp [Srt, leS, ltS]⟩]
  decide
end Go.Proofs
