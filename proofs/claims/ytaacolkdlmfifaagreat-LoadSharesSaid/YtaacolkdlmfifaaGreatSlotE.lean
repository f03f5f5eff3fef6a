/- The arbiter of the bus: its laws. -/
import Derived.Test.YtaacolkdlmfifaaGreatSlotD
set_option linter.all false
namespace Go.Proofs
open Go.Eng
set_option linter.unusedVariables false
set_option maxRecDepth 100000
set_option maxHeartbeats 2000000
theorem Tryz.slStartsNil (w : Int) (L : List HP) : Con Tryz.prog 17 [.pointer none, n64 w] L (Is (.slice none 0 0) L) := by
  refine con_of Tryz.tysOk Tryz.func17 rfl rfl ?_
  conv => whnf
  repeat' ((with_reducible refine Br.nn ?_); conv => whnf)
  all_goals (refine Is.ent ?_ ?_; (focus (exact Ent.rfl)); (exact Is.rfl))
theorem Tryz.slOffsNil (w : Int) (L : List HP) : Con Tryz.prog 30 [.pointer none, n64 w] L (Is (.slice none 0 0) L) := by
  refine con_of Tryz.tysOk Tryz.func30 rfl rfl ?_
  conv => whnf
  repeat' ((with_reducible refine Cl.is (Tryz.slStartsNil _ _) ?_); conv => whnf)
  conv => whnf
  refine Lp.by Tryz.tysOk [12, 5] (fun (k : Nat) => [.int .i64 k, .slice none 0 0]) (fun k => L) (fun k => k = 0) (fun k => 0) (0) (by kernel_rfl) (by (exact Ent.rfl)) (rfl) ?_
  rintro k h1
  conv => whnf
  repeat (intro _; conv => whnf)
  subst h1
  conv => whnf
  repeat' ((with_reducible refine Br.df ?_ ?_); (focus (first | assumption | omega)); conv => whnf)
  all_goals (refine Is.ent ?_ ?_; (focus (exact Ent.rfl)); (exact Is.rfl))
theorem Tryz.slNextNil (t w : Int) (L : List HP) : Con Tryz.prog 15 [.pointer none, n64 t, n64 w] L (Is (n64 (-1)) L) := by
  refine con_of Tryz.tysOk Tryz.func15 rfl rfl ?_
  conv => whnf
  repeat' ((with_reducible refine Br.nn ?_); conv => whnf)
  all_goals (refine Is.ent ?_ ?_; (focus (exact Ent.rfl)); (exact Is.rfl))
theorem live_ok : slOk 20 [(1, 4, 14)] ([(1, 4, 14)] : List Slt).length := fun i hi => by
  have e : i = 0 := by simp at hi; exact hi
  subst e
  exact ⟨by decide, fun j hj => by omega⟩
theorem live_st : sortI (rawS [(1, 4, 14)] 1) = [4, 8] := by
  rw [starts_eq live_ok]
  decide
theorem live_nx : NthP ((sortI (rawS [(1, 4, 14)] 1)).map offP) 20 9 1 24 := by
  rw [live_st]
  obtain ⟨T, h1, h2, h3, h4, h5⟩ := next_ex (xs := [4, 8].map offP) (f := 20) (t := 9) ⟨by omega, by omega⟩ ⟨by omega, by omega⟩ ⟨4, by omega, by omega, (offs_in (by decide)).2 (by simp)⟩
  rw [offs_in (by decide)] at h3
  have h24 : ¬ 24 < T := fun h => h4 24 (by omega) h ((offs_in (by decide)).2 (by decide))
  have : T % 20 = 4 ∨ T % 20 = 8 := by simpa using h3
  have e : T = 24 := by omega
  rw [e] at h5
  exact h5
end Go.Proofs
