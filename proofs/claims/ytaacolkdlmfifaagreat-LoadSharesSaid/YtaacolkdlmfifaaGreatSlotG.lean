/- The arbiter of the bus: the statements on units. -/
import Derived.Test.YtaacolkdlmfifaaGreatSlotF
set_option linter.all false
namespace Go.Proofs
open Go.Eng
set_option linter.unusedVariables false
set_option maxRecDepth 100000
set_option maxHeartbeats 2000000
theorem docS_no {n : Nat} {xs : List Slt} {w : Int} (h : (docS n xs w).length = 0) {o : Int} (h0 : 0 ≤ o) (h1 : o < n) : ¬ begO xs w o := fun hb => by
  have hm := docS_mem.2 ⟨h0, h1, hb⟩
  rw [List.length_eq_zero_iff.1 h] at hm
  simp at hm
/-- which unit is the next one -/
theorem next_unit {n t w : Int} {xs : List Slt} (hn : 0 < n ∧ n ≤ 4096) (hok : slOk n xs xs.length) (ht : 0 ≤ t ∧ t ≤ 2147483647) (h : ¬ (docS n.toNat xs w).length = 0) :
    ∃ T, t ≤ T ∧ T < t + n ∧ begO xs w (T % n) ∧ (∀ u, t ≤ u → u < T → ¬ begO xs w (u % n)) ∧ NthP ((sortI (rawS xs w)).map offP) n t 1 T := by
  have hmem : ∀ o : Int, inS ((docS n.toNat xs w).map offP) o ↔ 0 ≤ o ∧ o < n ∧ begO xs w o := fun o => by
    rw [offs_in (fun o ho => (docS_mem.1 ho).1), docS_mem]
    omega
  obtain ⟨o, ho⟩ : ∃ o, o ∈ docS n.toNat xs w := by
    cases hd : docS n.toNat xs w with
    | nil => rw [hd] at h; exact (h rfl).elim
    | cons x l => exact ⟨x, by simp⟩
  have hb := docS_mem.1 ho
  obtain ⟨T, h1, h2, h3, h4, h5⟩ := next_ex (xs := (docS n.toNat xs w).map offP) (f := n) (t := t) ⟨by omega, by omega⟩ ht ⟨o, by omega, by omega, (hmem o).2 ⟨by omega, by omega, hb.2.2⟩⟩
  rw [← starts_eq hok] at h5
  refine ⟨T, h1, h2, ((hmem _).1 h3).2.2, fun u a b hu => h4 u a b ((hmem _).2 ?_), h5⟩
  have := qr (n := u) (f := n) hn.1
  exact ⟨this.2.1, this.2.2, hu⟩
theorem next_none {n t w : Int} {xs : List Slt} (hok : slOk n xs xs.length) (h : (docS n.toNat xs w).length = 0) : NthP ((sortI (rawS xs w)).map offP) n t 1 (-1) := by
  rw [starts_eq hok, List.length_eq_zero_iff.1 h]
  exact ⟨fun ⟨o, _, _, h⟩ => by simp [inS] at h, fun _ => rfl, by omega⟩
end Go.Proofs
