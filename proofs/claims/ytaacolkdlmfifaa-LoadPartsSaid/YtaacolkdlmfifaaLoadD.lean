/- How long one waits for the bus: the statements. -/
import Derived.Test.YtaacolkdlmfifaaLoadC
set_option linter.all false
namespace Go.Proofs
open Go.Eng
open Classical
set_option linter.unusedVariables false
set_option maxRecDepth 100000
set_option maxHeartbeats 2000000
theorem parts_law {n m p : Int} (h : 1 ≤ m ∧ 0 ≤ n) (hp : p = (n * 10000) / m) : p * m ≤ n * 10000 ∧ n * 10000 < (p + 1) * m := by
  subst hp
  have h1 := Int.ediv_mul_le (n * 10000) (b := m) (by omega)
  have h2 := Int.lt_ediv_add_one_mul_self (n * 10000) (b := m) (by omega)
  exact ⟨h1, h2⟩
theorem Try.loadPartsLaw (n m : Int) (L : List HP) (hn : I64 n) (hm : I64 m) : Con Try.prog 3 [n64 n, n64 m] L (Is (.bool true) L) := by
  by_cases h : 1 ≤ m ∧ m ≤ 2147483647 ∧ 0 ≤ n ∧ n ≤ m
  · have hp := fun L => Try.loadParts n m L h
    have e : (n * 10000).tdiv m = (n * 10000) / m := Int.tdiv_eq_ediv_of_nonneg (by omega)
    have h1 : 0 ≤ (n * 10000) / m := Int.ediv_nonneg (by omega) (by omega)
    have h2 : (n * 10000) / m ≤ n * 10000 := Int.ediv_le_self m (by omega)
    have hl := parts_law (p := (n * 10000) / m) ⟨h.1, h.2.2.1⟩ rfl
    have h3 : (n * 10000) / m ≤ 10000 := by
      rcases Int.lt_or_le 10000 ((n * 10000) / m) with hlt | hle
      · have hmul : 10001 * m ≤ (n * 10000) / m * m := Int.mul_le_mul_of_nonneg_right (by omega) (by omega)
        omega
      · exact hle
    rw [← e] at h1 h2 h3 hl
    generalize (n * 10000).tdiv m = p at *
    have hpm : 0 ≤ p * m := Int.mul_nonneg h1 (by omega)
    have e2 : (p + 1) * m = p * m + m := by rw [Int.add_mul, Int.one_mul]
    rw [e2] at hl
    have e3 : ∀ K : Int → Prop, K (p * m + m) → Ar .i64 ((p + 1) * m) K := fun K k => Ar.i64 (by rw [e2]; omega) (by rw [e2]; exact k)
    generalize hq : p * m = q at *
    refine con_of Try.tysOk Try.func3 rfl rfl ?_
    conv => whnf
    repeat' (first
      | (first | ((with_reducible refine Br.tt ?_); conv => whnf) | ((with_reducible refine Br.ff ?_); conv => whnf) | ((with_reducible refine Br.dt ?_ ?_); (focus (first | assumption | omega)); conv => whnf) | ((with_reducible refine Br.df ?_ ?_); (focus (first | assumption | omega)); conv => whnf))
      | ((with_reducible refine Ar.i64 ?_ ?_); (focus omega); conv => whnf)
      | ((with_reducible refine Nd.mk ?_ ?_); (focus (first | omega | rfl | assumption | (simp; done))); conv => whnf)
      | (first | ((with_reducible refine Cl.is (hp _) ?_); conv => whnf) | ((with_reducible refine Cl.is (Try.loadLive _) ?_); conv => whnf)))
    all_goals first | (refine Is.ent ?_ ?_; (focus (exact Ent.rfl)); (exact Is.ttr (by first | assumption | omega))) | omega
  · have hp := fun L => Try.loadPartsNo n m L h
    refine con_of Try.tysOk Try.func3 rfl rfl ?_
    conv => whnf
    repeat' (first
      | (first | ((with_reducible refine Br.tt ?_); conv => whnf) | ((with_reducible refine Br.ff ?_); conv => whnf) | ((with_reducible refine Br.dt ?_ ?_); (focus (first | assumption | omega)); conv => whnf))
      | ((with_reducible refine Nd.mk ?_ ?_); (focus (first | omega | rfl | assumption | (simp; done))); conv => whnf)
      | (first | ((with_reducible refine Cl.is (hp _) ?_); conv => whnf) | ((with_reducible refine Cl.is (Try.loadLive _) ?_); conv => whnf))
      | ((with_reducible refine Br.ds (fun _ => ?_) (fun _ => ?_) ) <;> (conv => whnf)))
    all_goals first | (refine Is.ent ?_ ?_; (focus (exact Ent.rfl)); (exact Is.rfl)) | omega | (exfalso; omega)
end Go.Proofs
