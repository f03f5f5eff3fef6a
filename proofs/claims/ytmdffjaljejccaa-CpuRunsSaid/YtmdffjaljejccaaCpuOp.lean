/- States as arguments. -/
import Derived.Test.YtmdffjaljejccaaEngOpen
import Derived.Test.YtmdffjaljejccaaCpuJ
set_option linter.all false
namespace Go.Proofs
open Go.Eng
set_option linter.unusedVariables false
theorem Try.opInt {W : World} : Opn Try.prog W 3 (fun n : Int => [.int .i64 n]) (fun n => -9223372036854775808 ≤ n ∧ n ≤ 9223372036854775807) := op_i64 Try.underlying3
theorem list8 {α : Type} : ∀ {ys : List α}, ys.length = 8 → ∃ a b c d e f g h, ys = [a, b, c, d, e, f, g, h]
  | [a, b, c, d, e, f, g, h], _ => ⟨a, b, c, d, e, f, g, h, rfl⟩
  | [], h => by simp at h
  | [_], h => by simp at h
  | [_, _], h => by simp at h
  | [_, _, _], h => by simp at h
  | [_, _, _, _], h => by simp at h
  | [_, _, _, _, _], h => by simp at h
  | [_, _, _, _, _, _], h => by simp at h
  | [_, _, _, _, _, _, _], h => by simp at h
  | _ :: _ :: _ :: _ :: _ :: _ :: _ :: _ :: _ :: _, h => by simp at h
theorem Try.opState {W : World} : Opn Try.prog W 24 (fun y : Int × (Nat → Int) × Int => stC y.1 y.2.1 y.2.2) (fun y => I64 y.1 ∧ (∀ i, I64 (y.2.1 i)) ∧ I64 y.2.2) := by
  have o := op_struct (P := Try.prog) (W := W) Try.underlying24 (opF_cons (s := 1) Try.opInt rfl (by kernel_rfl) (opF_cons (s := 8) (op_array Try.underlying22 Try.opInt (by kernel_rfl : _ = 1) (by kernel_rfl)) rfl (by kernel_rfl) (opF_cons (s := 1) Try.opInt rfl (by kernel_rfl) opF_nil))) (by kernel_rfl)
  refine ⟨fun h => ?_⟩
  obtain ⟨⟨p, rs, m, _⟩, rfl, hp, ⟨hl, hr⟩, hm, _⟩ := o.go h
  dsimp only at hl hr hp hm ⊢
  refine ⟨(p, fun i => rs.getD i 0, m), ?_, hp, fun i => ?_, hm⟩
  · obtain ⟨a, b, c, d, e, f, g, h, rfl⟩ := list8 hl
    rfl
  · by_cases hi : i < rs.length
    · exact hr _ (getD_mem hi)
    · show I64 (rs.getD i 0)
      rw [List.getD_eq_getElem?_getD, List.getElem?_eq_none (by omega)]
      exact ⟨by decide, by decide⟩
end Go.Proofs
