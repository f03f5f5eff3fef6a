/- Spans: functions over slices of them. -/
import Derived.Test.YtkecobhmglcnfaaDoorSpan
set_option linter.all false
namespace Go.Proofs
open Go.Eng
set_option linter.unusedVariables false
set_option maxRecDepth 100000

/-- what is small -/
abbrev smallS (xs : List Sp) : Prop := xs.length ≤ 30 ∧ ∀ x ∈ xs, x.2 ≤ 300
abbrev holdsS (s : Sp) (n : Int) : Prop := 0 ≤ s.1 ∧ s.1 ≤ n ∧ n < s.2
/-! the first two that meet -/
abbrev meetP (s r : Sp) : Prop := meetS s.1 s.2 r.1 r.2
structure FirstP (xs : List Sp) (i k : Nat) : Prop where
  lt : i < k
  le : k < xs.length
  meet : meetP (xs.getD i spE.d) (xs.getD k spE.d)
  row : ∀ j, j < i → ¬ meetP (xs.getD j spE.d) (xs.getD k spE.d)
  rows : ∀ m, m < k → ∀ j, j < m → ¬ meetP (xs.getD j spE.d) (xs.getD m spE.d)
theorem FirstP.uniq {xs : List Sp} {i k j m : Nat} (h : FirstP xs i k) (g : FirstP xs j m) : i = j ∧ k = m := by
  have hk : k = m := by
    rcases Nat.lt_trichotomy k m with h1 | h1 | h1
    · exact (g.rows k h1 i h.lt h.meet).elim
    · exact h1
    · exact (h.rows m h1 j g.lt g.meet).elim
  subst hk
  refine ⟨?_, rfl⟩
  rcases Nat.lt_trichotomy i j with h1 | h1 | h1
  · exact (g.row i h1 h.meet).elim
  · exact h1
  · exact (h.row j h1 g.meet).elim
open Classical in
noncomputable def firstF (xs : List Sp) : Int × Int := if h : ∃ p : Nat × Nat, FirstP xs p.1 p.2 then (h.choose.1, h.choose.2) else (-1, -1)
theorem firstF_some {xs : List Sp} {i k : Nat} (h : FirstP xs i k) : firstF xs = ((i : Int), (k : Int)) := by
  unfold firstF
  have hx : ∃ p : Nat × Nat, FirstP xs p.1 p.2 := ⟨(i, k), h⟩
  rw [dif_pos hx]
  obtain ⟨e1, e2⟩ := hx.choose_spec.uniq h
  rw [e1, e2]
theorem firstF_none {xs : List Sp} (h : ∀ m, m < xs.length → ∀ j, j < m → ¬ meetP (xs.getD j spE.d) (xs.getD m spE.d)) : firstF xs = (-1, -1) := by
  unfold firstF
  rw [dif_neg]
  rintro ⟨⟨i, k⟩, g⟩
  exact h k g.le i g.lt g.meet

/-- slices.IndexFunc: the first place whose element the function is true of (none: -1) -/
def idxF {α : Type} (p : α → Bool) : List α → Int
  | [] => -1
  | x :: xs => if p x then 0 else (if idxF p xs = -1 then -1 else idxF p xs + 1)
theorem idxF_spec {α : Type} (d : α) (p : α → Bool) (xs : List α) : (idxF p xs = -1 ∧ ∀ i, i < xs.length → p (xs.getD i d) = false) ∨
    (∃ k : Nat, k < xs.length ∧ idxF p xs = k ∧ p (xs.getD k d) = true ∧ ∀ i, i < k → p (xs.getD i d) = false) := by
  induction xs with
  | nil => exact .inl ⟨rfl, fun i h => by simp at h⟩
  | cons x xs ih =>
    by_cases hx : p x = true
    · exact .inr ⟨0, by simp, by simp [idxF, hx], by simpa using hx, fun i h => by omega⟩
    · have hx : p x = false := by simpa using hx
      rcases ih with ⟨h1, h2⟩ | ⟨k, h1, h2, h3, h4⟩
      · refine .inl ⟨by simp [idxF, hx, h1], fun i hi => ?_⟩
        cases i with
        | zero => simpa using hx
        | succ i => simpa using h2 i (by simpa using hi)
      · refine .inr ⟨k + 1, by simpa using h1, ?_, by simpa using h3, fun i hi => ?_⟩
        · simp only [idxF, hx, Bool.false_eq_true, if_false]
          rw [if_neg (by omega), h2]; rfl
        · cases i with
          | zero => simpa using hx
          | succ i => simpa using h4 i (by omega)
theorem idxF_at {α : Type} (d : α) (p : α → Bool) (xs : List α) (k : Nat) (hk : k < xs.length) (hp : p (xs.getD k d) = true) (h : ∀ i, i < k → p (xs.getD i d) = false) : idxF p xs = k := by
  rcases idxF_spec d p xs with ⟨_, h2⟩ | ⟨m, h1, h2, h3, h4⟩
  · rw [h2 k hk] at hp; cases hp
  · rcases Nat.lt_trichotomy k m with g | g | g
    · rw [h4 k g] at hp; cases hp
    · rw [g]; exact h2
    · rw [h m g] at h3; cases h3
theorem idxF_no {α : Type} (d : α) (p : α → Bool) (xs : List α) (h : ∀ i, i < xs.length → p (xs.getD i d) = false) : idxF p xs = -1 := by
  rcases idxF_spec d p xs with ⟨h1, _⟩ | ⟨m, h1, h2, h3, h4⟩
  · exact h1
  · rw [h m h1] at h3; cases h3

/-- are all spans, and none meet? -/
abbrev apartS (xs : List Sp) : Prop := (firstF xs).1 < 0 ∧ ∀ x ∈ xs, isS x.1 x.2
end Go.Proofs
