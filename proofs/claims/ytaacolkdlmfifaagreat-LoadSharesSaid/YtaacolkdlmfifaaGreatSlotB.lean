/- The arbiter of the bus: what the bus is at a tick; where units begin: contracts. -/
import Derived.Test.YtaacolkdlmfifaaGreatSlot
import Derived.Test.YtaacolkdlmfifaaGreatSortI
set_option linter.all false
namespace Go.Proofs
open Go.Eng
set_option linter.unusedVariables false
set_option maxRecDepth 100000
set_option maxHeartbeats 1000000
theorem td4 {x : Int} (h : 0 ≤ x) : x.tdiv 4 = x / 4 := Int.tdiv_eq_ediv_of_nonneg h
theorem tm4 {x : Int} (h : 0 ≤ x) : x.tmod 4 = x % 4 := Int.tmod_eq_emod_of_nonneg h
/-- what the bus is at an offset of a slot -/
def stS (s : Slt) (o : Int) : Int × Int × Int := if (s.2.2 - s.2.1) / 4 ≤ (o - s.2.1) / 4 then (s.1, -1, 0) else (s.1, (o - s.2.1) / 4, (o - s.2.1) % 4)
abbrev inSl (s : Slt) (o : Int) : Prop := s.2.1 ≤ o ∧ o < s.2.2
def stO (xs : List Slt) (o : Int) : Int × Int × Int := match xs.find? (fun s => decide (inSl s o)) with
  | none => (0, -1, 0)
  | some s => stS s o
def stF (n : Int) (xs : List Slt) (t : Int) : Int × Int × Int := if t < 0 then (0, -1, 0) else stO xs (t % n)
theorem st_at {xs : List Slt} {o : Int} {k : Nat} (hk : k < xs.length) (h : inSl (xs.getD k slE.d) o) (hp : ∀ i, i < k → ¬ inSl (xs.getD i slE.d) o) : stO xs o = stS (xs.getD k slE.d) o := by
  have e : xs.find? (fun s => decide (inSl s o)) = some (xs.getD k slE.d) := by
    induction xs generalizing k with
    | nil => simp at hk
    | cons x xs ih =>
      cases k with
      | zero => rw [List.find?_cons_of_pos (by simpa using h)]; simp
      | succ k =>
        have h0 : ¬ inSl x o := by simpa using hp 0 (by omega)
        rw [List.find?_cons_of_neg (by simpa using h0)]
        have := ih (k := k) (by simpa using hk) (by simpa using h) (fun i hi => by simpa using hp (i + 1) (by omega))
        rw [this]; simp
  unfold stO
  rw [e]
theorem st_no {xs : List Slt} {o : Int} (hp : ∀ i, i < xs.length → ¬ inSl (xs.getD i slE.d) o) : stO xs o = (0, -1, 0) := by
  have e : xs.find? (fun s => decide (inSl s o)) = none := List.find?_eq_none.2 fun r hr => by
    obtain ⟨i, hi, rfl⟩ := List.getElem_of_mem hr
    have := hp i hi
    simpa [List.getD, hi] using this
  unfold stO
  rw [e]
abbrev stV3 (s : Int × Int × Int) : Value := .agg #[n64 s.1, n64 s.2.1, n64 s.2.2]
end Go.Proofs
