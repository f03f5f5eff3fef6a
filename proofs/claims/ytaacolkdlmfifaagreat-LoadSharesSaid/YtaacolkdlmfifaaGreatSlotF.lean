/- The arbiter of the bus: the statements. -/
import Derived.Test.YtaacolkdlmfifaaGreatSlotE
set_option linter.all false
namespace Go.Proofs
open Go.Eng
set_option linter.unusedVariables false
set_option maxRecDepth 100000
set_option maxHeartbeats 2000000
theorem chk_ex (n : Int) (xs : List Slt) : ∃ e, ChkR n xs e := by
  by_cases hf : okF n
  · have key : ∀ m, m ≤ xs.length → slOk n xs m ∨ ∃ e, ChkR n xs e := by
      intro m
      induction m with
      | zero => intro _; exact .inl (fun i h => by omega)
      | succ m ih =>
        intro hm
        rcases ih (by omega) with h | h
        · by_cases ho : okS n (xs.getD m slE.d)
          · by_cases hj : ∃ j, j < m ∧ meetP (slP (xs.getD j slE.d)) (slP (xs.getD m slE.d))
            · obtain ⟨j, h1, h2⟩ := hj
              exact .inr ⟨11, .meet hf m (by omega) h ho j h1 h2⟩
            · exact .inl (lt_step h ⟨ho, fun j h1 h2 => hj ⟨j, h1, h2⟩⟩)
          · exact .inr ⟨2, .bad hf m (by omega) h ho⟩
        · exact .inr h
    rcases key xs.length (Nat.le_refl _) with h | h
    · exact ⟨0, .ok hf h⟩
    · exact h
  · exact ⟨2, .frame hf⟩
theorem chk_zero {n : Int} {xs : List Slt} (h : ChkR n xs 0) : okF n ∧ slOk n xs xs.length := by
  generalize he : (0 : Int) = e at h
  cases h with
  | ok h g => exact ⟨h, g⟩
  | frame h => omega
  | bad h k hk g b => omega
  | meet h k hk g o j hj m => omega
abbrev sl32 (xs : List Slt) : List Slt := List.take (min (xs.length : Int) 32).toNat xs
theorem sl32_len (xs : List Slt) : (sl32 xs).length ≤ 32 := by unfold sl32; rw [List.length_take]; omega
theorem stF_add {n t : Int} {xs : List Slt} (ht : 0 ≤ t) (hn : 0 < n) : stF n xs (t + n) = stF n xs t := by
  unfold stF
  rw [if_neg (by omega), if_neg (by omega), Int.add_emod_right]
end Go.Proofs
