/- How long one waits for the bus: plain laws. -/
import Derived.Test.YtaacolkdlmfifaaGreatSlotG
import Derived.Test.YtaacolkdlmfifaaGreatConfB
set_option linter.all false
namespace Go.Proofs
open Go.Eng
open Classical
set_option linter.unusedVariables false
set_option maxRecDepth 100000
/-- the wait from an offset on -/
structure WaitP (n : Int) (xs : List Slt) (w o d : Int) : Prop where
  nn : 0 ≤ d
  lt : d < n
  is : begO xs w ((o + d) % n)
  no : ∀ u, 0 ≤ u → u < d → ¬ begO xs w ((o + u) % n)
theorem WaitP.uniq {n : Int} {xs : List Slt} {w o d e : Int} (h : WaitP n xs w o d) (g : WaitP n xs w o e) : d = e := by
  rcases Int.lt_trichotomy d e with h1 | h1 | h1
  · exact (g.no d h.nn h1 h.is).elim
  · exact h1
  · exact (h.no e g.nn h1 g.is).elim
/-- the longest wait, and where it is first -/
structure WorstP (n : Int) (xs : List Slt) (w W A : Int) : Prop where
  nn : 0 ≤ A
  lt : A < n
  is : WaitP n xs w A W
  best : ∀ o d, 0 ≤ o → o < n → WaitP n xs w o d → d < W ∨ (d = W ∧ A ≤ o)
theorem WorstP.uniq {n : Int} {xs : List Slt} {w W A V B : Int} (h : WorstP n xs w W A) (g : WorstP n xs w V B) : W = V ∧ A = B := by
  have h1 := h.best B V g.nn g.lt g.is
  have h2 := g.best A W h.nn h.lt h.is
  omega
theorem wait_ex {n w o : Int} {xs : List Slt} (hn : 0 < n ∧ n ≤ 4096) (hok : slOk n xs xs.length) (ho : 0 ≤ o ∧ o < n) (h : ¬ (docS n.toNat xs w).length = 0) :
    ∃ d, WaitP n xs w o d ∧ NthP ((sortI (rawS xs w)).map offP) n o 1 (o + d) := by
  obtain ⟨T, h1, h2, h3, h4, h5⟩ := next_unit (t := o) (w := w) hn hok ⟨ho.1, by omega⟩ h
  refine ⟨T - o, ⟨by omega, by omega, by rw [show o + (T - o) = T from by omega]; exact h3, fun u a b => h4 (o + u) (by omega) (by omega)⟩, ?_⟩
  rw [show o + (T - o) = T from by omega]
  exact h5
theorem worst_ex {n w : Int} {xs : List Slt} (hn : 0 < n ∧ n ≤ 4096) (hok : slOk n xs xs.length) (h : ¬ (docS n.toNat xs w).length = 0) : ∃ W A, WorstP n xs w W A := by
  have key : ∀ k : Nat, 0 < k → (k : Int) ≤ n → ∃ W A : Int, (0 ≤ A ∧ A < k) ∧ WaitP n xs w A W ∧ ∀ o d : Int, 0 ≤ o → o < k → WaitP n xs w o d → d < W ∨ (d = W ∧ A ≤ o) := by
    intro k
    induction k with
    | zero => intro h; omega
    | succ k ih =>
      intro _ hk
      obtain ⟨d, hd, _⟩ := wait_ex (w := w) (o := k) hn hok ⟨by omega, by omega⟩ h
      by_cases h0 : k = 0
      · subst h0
        refine ⟨d, 0, ⟨by omega, by omega⟩, hd, fun o e h1 h2 h3 => ?_⟩
        have : o = 0 := by omega
        subst this
        exact .inr ⟨h3.uniq hd, by omega⟩
      · obtain ⟨W, A, hA, hW, hb⟩ := ih (by omega) (by omega)
        by_cases hgt : W < d
        · refine ⟨d, k, ⟨by omega, by omega⟩, hd, fun o e h1 h2 h3 => ?_⟩
          by_cases he : o = k
          · subst he
            exact .inr ⟨h3.uniq hd, by omega⟩
          · have := hb o e h1 (by omega) h3
            omega
        · refine ⟨W, A, ⟨by omega, by omega⟩, hW, fun o e h1 h2 h3 => ?_⟩
          by_cases he : o = k
          · subst he
            have := h3.uniq hd
            omega
          · exact hb o e h1 (by omega) h3
  obtain ⟨W, A, hA, hW, hb⟩ := key n.toNat (by omega) (by omega)
  exact ⟨W, A, hA.1, by omega, hW, fun o d h1 h2 h3 => hb o d h1 (by omega) h3⟩
/-- where one waits longest is the beginning, or just behind a unit's first tick -/
theorem worst_at {n w W A : Int} {xs : List Slt} (hn : 0 < n) (h : WorstP n xs w W A) (hW : W + 1 < n ∨ A = 0 ∨ begO xs w (A - 1)) : A = 0 ∨ begO xs w (A - 1) := by
  rcases hW with hW | hW
  · refine Classical.byContradiction fun hno => ?_
    have h0 : ¬ A = 0 := fun h => hno (.inl h)
    have h1 : ¬ begO xs w (A - 1) := fun h => hno (.inr h)
    have hA := h.nn
    have hl := h.lt
    have hp : WaitP n xs w (A - 1) (W + 1) := by
      refine ⟨by have := h.is.nn; omega, hW, by rw [show A - 1 + (W + 1) = A + W from by omega]; exact h.is.is, fun u a b => ?_⟩
      by_cases hu : u = 0
      · subst hu
        rw [Int.add_zero, Int.emod_eq_of_lt (by omega) (by omega)]
        exact h1
      · rw [show A - 1 + u = A + (u - 1) from by omega]
        exact h.is.no (u - 1) (by omega) (by omega)
    have := h.best (A - 1) (W + 1) (by omega) (by omega) hp
    omega
  · exact hW
theorem worst_from {n w W A : Int} {xs : List Slt} (hn : 0 < n ∧ n ≤ 4096) (hok : slOk n xs xs.length) (hd : ¬ (docS n.toNat xs w).length = 0) (h : WorstP n xs w W A) : A = 0 ∨ ∃ s ∈ docS n.toNat xs w, A = (s + 1) % n := by
  have hA := h.nn
  have hl := h.lt
  have key : A = 0 ∨ begO xs w (A - 1) := by
    by_cases h1 : W + 1 < n
    · exact worst_at hn.1 h (.inl h1)
    · by_cases h0 : A = 0
      · exact .inl h0
      · refine .inr (Classical.byContradiction fun h2 => ?_)
        -- W + 1 = n: from just before A on none begins, for a whole frame
        have hW := h.is.lt
        have e : W + 1 = n := by omega
        have hi := h.is.is
        rw [show A + W = A - 1 + n from by omega, Int.add_emod_right, Int.emod_eq_of_lt (by omega) (by omega)] at hi
        exact h2 hi
  rcases key with h0 | h0
  · exact .inl h0
  · by_cases hz : A = 0
    · exact .inl hz
    · exact .inr ⟨A - 1, docS_mem.2 ⟨by omega, by omega, h0⟩, by rw [show A - 1 + 1 = A from by omega, Int.emod_eq_of_lt hA hl]⟩
end Go.Proofs
