/- The clock: contracts. -/
import Derived.Test.YtaacolkdlmfifaaGreatClockN
set_option linter.all false
namespace Go.Proofs
open Go.Eng
set_option linter.unusedVariables false
set_option maxRecDepth 100000
set_option maxHeartbeats 800000
abbrev n64 (n : Int) : Value := .int .i64 n
theorem Tryz.clkRight (f : Int) (L : List HP) : Con Tryz.prog 43 [n64 f] L (Is (.bool (decide (okF f))) L) := by
  refine con_of Tryz.tysOk Tryz.func43 rfl rfl ?_
  conv => whnf
  repeat' (first
    | (first | ((with_reducible refine Br.tt ?_); conv => whnf) | ((with_reducible refine Br.ff ?_); conv => whnf))
    | ((with_reducible refine Br.ds (fun _ => ?_) (fun _ => ?_) ) <;> (conv => whnf)))
  all_goals (refine Is.ent ?_ ?_; (focus (exact Ent.rfl)); (first | exact Is.ff (by omega) | (refine Is.dec ?_; omega)))
theorem Tryz.refOffset (t f : Int) (L : List HP) (ht : 0 ≤ t ∧ t ≤ 9223372036854775807) (hf : okF f) : Con Tryz.prog 42 [n64 t, n64 f] L (Is (n64 (t % f)) L) := by
  have h1 : t.tdiv f = t / f := Int.tdiv_eq_ediv_of_nonneg ht.1
  have h2 := qr (n := t) (f := f) (by omega)
  have h3 := div_nn (n := t) (f := f) ht.1 (by omega)
  rw [← h1] at h2 h3
  refine con_of Tryz.tysOk Tryz.func42 rfl rfl ?_
  conv => whnf
  repeat' (first
    | ((with_reducible refine Ar.i64 ?_ ?_); (focus omega); conv => whnf)
    | ((with_reducible refine Nd.mk ?_ ?_); (focus (first | omega | rfl | assumption | (simp; done))); conv => whnf))
  all_goals (refine Is.ent ?_ ?_; (focus (exact Ent.rfl)); (refine Is.int ?_; omega))
theorem Tryz.clkFrame (t f : Int) (L : List HP) (ht : 0 ≤ t ∧ t ≤ 9223372036854775807) (hf : okF f) : Con Tryz.prog 49 [n64 t, n64 f] L (Is (.tuple #[n64 (t / f), n64 (t % f)]) L) := by
  have h1 : t.tdiv f = t / f := Int.tdiv_eq_ediv_of_nonneg ht.1
  have h4 : t.tmod f = t % f := Int.tmod_eq_emod_of_nonneg ht.1
  have h3 := div_nn (n := t) (f := f) ht.1 (by omega)
  rw [← h1] at h3
  rw [← h1, ← h4]
  refine con_of Tryz.tysOk Tryz.func49 rfl rfl ?_
  conv => whnf
  repeat' (first
    | (first | ((with_reducible refine Br.ff ?_); conv => whnf) | ((with_reducible refine Br.nt ?_); conv => whnf) | ((with_reducible refine Br.df ?_ ?_); (focus (first | assumption | omega)); conv => whnf))
    | ((with_reducible refine Ar.i64 ?_ ?_); (focus omega); conv => whnf)
    | ((with_reducible refine Nd.mk ?_ ?_); (focus (first | omega | rfl | assumption | (simp; done))); conv => whnf)
    | ((with_reducible refine Dr.by (id := 3) Tryz.tysOk rfl [(0, 0), (1, 0), (2, 0), (3, 0), (4, 0), (5, 0), (6, 0), (7, 0)] ?_ ?_); (focus kernel_rfl); conv => whnf)
    | ((with_reducible refine Cl.is (Con.dt hf (Tryz.clkRight _ _)) ?_); conv => whnf))
  all_goals (refine Is.ent ?_ ?_; (focus (exact Ent.rfl)); (exact Is.rfl))
theorem Tryz.clkFrameNo (t f : Int) (L : List HP) (h : ¬ (okF f ∧ 0 ≤ t)) : Con Tryz.prog 49 [n64 t, n64 f] L (Is (.tuple #[n64 0, n64 0]) L) := by
  by_cases hf : okF f
  · refine con_of Tryz.tysOk Tryz.func49 rfl rfl ?_
    conv => whnf
    repeat' (first
      | (first | ((with_reducible refine Br.ff ?_); conv => whnf) | ((with_reducible refine Br.nt ?_); conv => whnf) | ((with_reducible refine Br.dt ?_ ?_); (focus (first | assumption | omega)); conv => whnf))
      | ((with_reducible refine Cl.is (Con.dt hf (Tryz.clkRight _ _)) ?_); conv => whnf))
    all_goals (refine Is.ent ?_ ?_; (focus (exact Ent.rfl)); (exact Is.rfl))
  · refine con_of Tryz.tysOk Tryz.func49 rfl rfl ?_
    conv => whnf
    repeat' (first
      | (first | ((with_reducible refine Br.tt ?_); conv => whnf) | ((with_reducible refine Br.nf ?_); conv => whnf))
      | ((with_reducible refine Cl.is (Con.df hf (Tryz.clkRight _ _)) ?_); conv => whnf))
    all_goals (refine Is.ent ?_ ?_; (focus (exact Ent.rfl)); (exact Is.rfl))
abbrev atOk (k o f : Int) : Prop := okF f ∧ 0 ≤ k ∧ k ≤ 2147483647 ∧ 0 ≤ o ∧ o < f
abbrev nextOk (t o f : Int) : Prop := okF f ∧ 0 ≤ o ∧ o < f ∧ t ≤ 2147483647
/-! counts -/
abbrev cntOk (s1 s2 o1 o2 f : Int) : Prop := okF f ∧ isS s1 s2 ∧ s2 ≤ 2147483647 ∧ meetS o1 o2 0 f
end Go.Proofs
