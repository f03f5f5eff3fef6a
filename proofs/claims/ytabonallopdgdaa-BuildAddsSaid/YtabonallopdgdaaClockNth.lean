/- The clock: the n'th tick. -/
import Derived.Test.YtabonallopdgdaaClock
set_option linter.all false
namespace Go.Proofs
open Go.Eng
set_option linter.unusedVariables false
set_option maxRecDepth 100000
set_option maxHeartbeats 2000000
abbrev nthOk (t n f : Int) : Prop := okF f ∧ 1 ≤ n ∧ n ≤ 65536 ∧ 0 ≤ t ∧ t ≤ 2147483647
/-- what the n'th tick is -/
structure NthP (xs : List Sp) (f t n T : Int) : Prop where
  yes : (∃ o, 0 ≤ o ∧ o < f ∧ inS xs o) → NthOf (meetI f (mergeF xs)) f t n T
  no : (¬ ∃ o, 0 ≤ o ∧ o < f ∧ inS xs o) → T = -1
  le : T ≤ 9223372036854775807
theorem totalS_pos {I : List Sp} (h : ∀ x ∈ I, isS x.1 x.2) : totalS I ≠ 0 ↔ I ≠ [] := by
  cases I with
  | nil => simp [totalS]
  | cons x I =>
    have h1 := h x (by simp)
    have h2 : 0 ≤ totalS I := by
      have : ∀ J : List Sp, (∀ y ∈ J, isS y.1 y.2) → 0 ≤ totalS J := by
        intro J
        induction J with
        | nil => intro _; simp [totalS]
        | cons y J ih =>
          intro h
          have := h y (by simp)
          have := ih fun z hz => h z (by simp [hz])
          have e : totalS (y :: J) = (y.2 - y.1) + totalS J := by simp [totalS]
          omega
      exact this I fun y hy => h y (by simp [hy])
    have e : totalS (x :: I) = (x.2 - x.1) + totalS I := by simp [totalS]
    constructor
    · intro _ h; cases h
    · intro _; omega
theorem totalS_snoc {I : List Sp} {x : Sp} : totalS (I ++ [x]) = totalS I + (x.2 - x.1) := by simp [totalS]
end Go.Proofs
