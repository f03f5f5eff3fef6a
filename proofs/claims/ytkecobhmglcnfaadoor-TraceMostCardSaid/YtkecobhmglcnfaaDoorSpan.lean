/- Spans: the contracts of the package's and its reference's functions. -/
import Derived.Test.YtkecobhmglcnfaaDoorEngList
import Derived.Test.YtkecobhmglcnfaaDoorTys
set_option linter.all false
namespace Go.Proofs
open Go.Eng
set_option linter.unusedVariables false
set_option maxRecDepth 100000

abbrev Sp := Int × Int
abbrev spV (f t : Int) : Value := .agg #[.int .i64 f, .int .i64 t]
def spE : Enc Sp := ⟨2, fun s => [.int .i64 s.1, .int .i64 s.2], (0, 0), fun _ => rfl, by omega, fun _ => rfl⟩
abbrev isS (f t : Int) : Prop := 0 ≤ f ∧ f < t

theorem Tryd.spanIs (f t : Int) (L : List HP) : Con Tryd.prog 49 [spV f t] L (Is (.bool (decide (isS f t))) L) := by
  refine con_of Tryd.tysOk Tryd.func49 rfl rfl ?_
  conv => whnf
  repeat' (first
    | (first | ((with_reducible refine Br.tt ?_); conv => whnf) | ((with_reducible refine Br.ff ?_); conv => whnf))
    | ((with_reducible refine Nc.go' (fun _ => ?_)); conv => whnf)
    | (refine Ld.at 0 rfl rfl ?_; conv => whnf)
    | ((with_reducible refine Br.ds (fun _ => ?_) (fun _ => ?_) ) <;> (conv => whnf)))
  all_goals (refine Is.ent ?_ ?_; (focus (refine FEnt.ent ?_; (repeat (first | exact FEnt.rfl | refine FEnt.drop ?_)); done)); (first | exact Is.ff (by omega) | (refine Is.dec ?_; omega)))
theorem Tryd.spanHolds (f t n : Int) (L : List HP) : Con Tryd.prog 32 [spV f t, .int .i64 n] L (Is (.bool (decide (isS f t ∧ f ≤ n ∧ n < t))) L) := by
  refine con_of Tryd.tysOk Tryd.func32 rfl rfl ?_
  conv => whnf
  repeat' (first
    | (first | ((with_reducible refine Br.tt ?_); conv => whnf) | ((with_reducible refine Br.ff ?_); conv => whnf))
    | ((with_reducible refine Nc.go' (fun _ => ?_)); conv => whnf)
    | (refine Ld.at 0 rfl rfl ?_; conv => whnf)
    | (refine LdN.at 0 rfl (by first | exact Nat.le_of_ble_eq_true rfl | (simp; done)) ?_; conv => whnf)
    | ((with_reducible refine Cl.is (Tryd.spanIs _ _ _) ?_); conv => whnf)
    | ((with_reducible refine Br.ds (fun _ => ?_) (fun _ => ?_) ) <;> (conv => whnf)))
  all_goals (refine Is.ent ?_ ?_; (focus (refine FEnt.ent ?_; (repeat (first | exact FEnt.rfl | refine FEnt.drop ?_)); done)); (first | exact Is.ff (by omega) | (refine Is.dec ?_; omega)))
theorem Tryd.refHolds (f t n : Int) (L : List HP) : Con Tryd.prog 9 [spV f t, .int .i64 n] L (Is (.bool (decide (0 ≤ f ∧ f ≤ n ∧ n < t))) L) := by
  refine con_of Tryd.tysOk Tryd.func9 rfl rfl ?_
  conv => whnf
  repeat' (first
    | (first | ((with_reducible refine Br.tt ?_); conv => whnf) | ((with_reducible refine Br.ff ?_); conv => whnf))
    | ((with_reducible refine Nc.go' (fun _ => ?_)); conv => whnf)
    | (refine Ld.at 0 rfl rfl ?_; conv => whnf)
    | ((with_reducible refine Br.ds (fun _ => ?_) (fun _ => ?_) ) <;> (conv => whnf)))
  all_goals (refine Is.ent ?_ ?_; (focus (refine FEnt.ent ?_; (repeat (first | exact FEnt.rfl | refine FEnt.drop ?_)); done)); (first | exact Is.ff (by omega) | (refine Is.dec ?_; omega)))
/-- do two spans meet? -/
abbrev meetS (f t g u : Int) : Prop := isS f t ∧ isS g u ∧ f < u ∧ g < t
/-- the order of the sort -/
def cmpI (a b : Int) : Int := if a < b then -1 else if b < a then 1 else 0
theorem Tryd.isNaN (a : Int) (L : List HP) : Con Tryd.prog 48 [.int .i64 a] L (Is (.bool false) L) := by
  refine con_of Tryd.tysOk Tryd.func48 rfl rfl ?_
  conv => whnf
  repeat' skip
  all_goals (refine Is.ent ?_ ?_; (focus (exact Ent.rfl)); (exact Is.bool (by simp)))
theorem Tryd.compare (a b : Int) (L : List HP) : Con Tryd.prog 30 [.int .i64 a, .int .i64 b] L (Is (.int .i64 (cmpI a b)) L) := by
  refine con_of Tryd.tysOk Tryd.func30 rfl rfl ?_
  conv => whnf
  repeat' (first
    | ((with_reducible refine Br.ff ?_); conv => whnf)
    | ((with_reducible refine Cl.is (Tryd.isNaN _ _) ?_); conv => whnf)
    | ((with_reducible refine Br.ds (fun _ => ?_) (fun _ => ?_) ) <;> (conv => whnf)))
  all_goals (unfold cmpI; (refine Is.ent ?_ ?_; (focus (exact Ent.rfl)); (refine Is.int ?_; omega)))
def spC (f t g u : Int) : Int := if cmpI f g = 0 then cmpI t u else cmpI f g
abbrev ltS (x y : Sp) : Prop := x.1 < y.1 ∨ x.1 = y.1 ∧ x.2 < y.2
abbrev leS (x y : Sp) : Prop := ¬ ltS y x
theorem spC_lt (f t g u : Int) : spC f t g u < 0 ↔ ltS (f, t) (g, u) := by
  unfold spC cmpI ltS
  simp only
  repeat' split
  all_goals omega
end Go.Proofs
