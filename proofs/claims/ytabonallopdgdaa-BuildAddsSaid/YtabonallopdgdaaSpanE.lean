/- Spans: totals, and what must be whatever is asked. -/
import Derived.Test.YtabonallopdgdaaSpanD
set_option linter.all false
namespace Go.Proofs
open Go.Eng
set_option linter.unusedVariables false
set_option maxRecDepth 100000

theorem mstep_ok {M : Int} {out : List Sp} {s : Sp} (h : ∀ y ∈ out, isS y.1 y.2 ∧ y.2 ≤ M) (hs : s.2 ≤ M) : ∀ y ∈ mstep out s, isS y.1 y.2 ∧ y.2 ≤ M := by
  intro y hy
  unfold mstep at hy
  split at hy
  · rename_i hi
    split at hy
    · rename_i hc
      have hm : lastS out ∈ out := getD_mem (by have := List.length_pos_iff.2 hc.1; omega)
      rcases List.mem_or_eq_of_mem_set hy with hy | rfl
      · exact h y hy
      · have := h _ hm
        simp only
        omega
    · rcases List.mem_append.1 hy with hy | hy
      · exact h y hy
      · rw [List.mem_singleton] at hy; subst hy; exact ⟨hi, hs⟩
  · exact h y hy
theorem merge_ok {M : Int} {xs : List Sp} (hs : ∀ x ∈ xs, x.2 ≤ M) : ∀ y ∈ mergeF xs, isS y.1 y.2 ∧ y.2 ≤ M := by
  have key : ∀ (zs out : List Sp), (∀ x ∈ zs, x.2 ≤ M) → (∀ y ∈ out, isS y.1 y.2 ∧ y.2 ≤ M) → ∀ y ∈ zs.foldl mstep out, isS y.1 y.2 ∧ y.2 ≤ M := by
    intro zs
    induction zs with
    | nil => exact fun out _ h => h
    | cons z zs ih => exact fun out hz h => ih _ (fun x hx => hz x (by simp [hx])) (mstep_ok h (hz z (by simp)))
  exact key _ [] (fun x hx => hs x ((sortF_spec xs).1.mem_iff.1 hx)) (by simp)
theorem mergeS_len : ∀ (zs out : List Sp), (zs.foldl mstep out).length ≤ out.length + zs.length := by
  intro zs
  induction zs with
  | nil => intro out; simp
  | cons z zs ih =>
    intro out
    have h1 := ih (mstep out z)
    have h2 := mstep_len out z
    simp only [List.foldl_cons, List.length_cons]
    omega
theorem mergeF_len (xs : List Sp) : (mergeF xs).length ≤ xs.length := by
  have := mergeS_len (sortF xs) []
  rw [sortF_len] at this
  simpa [mergeF, mergeS] using this

def totalS (ys : List Sp) : Int := (ys.map fun s => s.2 - s.1).sum
theorem totalS_take {ys : List Sp} {k : Nat} (h : k < ys.length) : totalS (ys.take (k + 1)) = totalS (ys.take k) + ((ys.getD k spE.d).2 - (ys.getD k spE.d).1) := by
  rw [take_snoc h]; simp [totalS]
theorem totalS_bd {ys : List Sp} (h : ∀ y ∈ ys, isS y.1 y.2 ∧ y.2 ≤ 1000000) : 0 ≤ totalS ys ∧ totalS ys ≤ 1000000 * ys.length := by
  induction ys with
  | nil => simp [totalS]
  | cons y ys ih =>
    have h1 := h y (by simp)
    have h2 := ih fun z hz => h z (by simp [hz])
    have e : totalS (y :: ys) = (y.2 - y.1) + totalS ys := by simp [totalS]
    have e2 : ((y :: ys).length : Int) = ys.length + 1 := by simp
    rw [e, e2]
    omega
end Go.Proofs
