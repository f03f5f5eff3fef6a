/- The arbiter of the bus, by the document: what the bus is at a tick; where units begin: contracts. -/
import Derived.Test.YtaacolkdlmfifaaSlotB
set_option linter.all false
namespace Go.Proofs
open Go.Eng
set_option linter.unusedVariables false
set_option maxRecDepth 100000
set_option maxHeartbeats 1000000
/-- does a unit of an owner begin at an offset? -/
abbrev begP (s : Int × Int × Int) (w : Int) : Prop := s.1 = w ∧ 0 ≤ s.2.1 ∧ s.2.2 = 0
abbrev begO (xs : List Slt) (w o : Int) : Prop := begP (stO xs o) w
/-- where an owner's units begin, by the document -/
def docS (n : Nat) (xs : List Slt) (w : Int) : List Int := ((List.range n).filter fun i : Nat => decide (begO xs w (i : Int))).map fun i : Nat => (i : Int)
theorem docS_succ (n : Nat) (xs : List Slt) (w : Int) : docS (n + 1) xs w = if begO xs w (n : Int) then docS n xs w ++ [(n : Int)] else docS n xs w := by
  unfold docS
  rw [List.range_succ, List.filter_append, List.map_append]
  by_cases h : begO xs w (n : Int) <;> simp [h]
theorem docS_len (n : Nat) (xs : List Slt) (w : Int) : (docS n xs w).length ≤ n := by
  unfold docS
  rw [List.length_map]
  exact Nat.le_trans (List.length_filter_le _ _) (by simp)
theorem docS_mem {n : Nat} {xs : List Slt} {w o : Int} : o ∈ docS n xs w ↔ 0 ≤ o ∧ o < n ∧ begO xs w o := by
  unfold docS
  rw [List.mem_map]
  constructor
  · rintro ⟨i, hi, rfl⟩
    rw [List.mem_filter, List.mem_range] at hi
    exact ⟨by omega, by omega, of_decide_eq_true hi.2⟩
  · rintro ⟨h1, h2, h3⟩
    have e : ((o.toNat : Nat) : Int) = o := by omega
    refine ⟨o.toNat, ?_, e⟩
    rw [List.mem_filter, List.mem_range, e]
    exact ⟨by omega, decide_eq_true h3⟩
theorem docS_lt (n : Nat) (xs : List Slt) (w : Int) : (docS n xs w).Pairwise (· < ·) := by
  unfold docS
  rw [List.pairwise_map]
  refine List.Pairwise.filter _ ?_
  refine List.Pairwise.imp ?_ (List.pairwise_lt_range (n := n))
  intro a b h
  omega
end Go.Proofs
