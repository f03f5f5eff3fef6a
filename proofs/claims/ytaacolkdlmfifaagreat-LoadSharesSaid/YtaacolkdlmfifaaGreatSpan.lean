/- Spans: the contracts of the package's and its reference's functions. -/
import Derived.Test.YtaacolkdlmfifaaGreatEngList
import Derived.Test.YtaacolkdlmfifaaGreatTys
set_option linter.all false
namespace Go.Proofs
open Go.Eng
set_option linter.unusedVariables false
set_option maxRecDepth 100000

abbrev Sp := Int × Int
abbrev spV (f t : Int) : Value := .agg #[.int .i64 f, .int .i64 t]
def spE : Enc Sp := ⟨2, fun s => [.int .i64 s.1, .int .i64 s.2], (0, 0), fun _ => rfl, by omega, fun _ => rfl⟩
abbrev isS (f t : Int) : Prop := 0 ≤ f ∧ f < t

theorem Tryz.spanIs (f t : Int) (L : List HP) : Con Tryz.prog 59 [spV f t] L (Is (.bool (decide (isS f t))) L) := by
  refine con_of Tryz.tysOk Tryz.func59 rfl rfl ?_
  conv => whnf
  repeat' (first
    | (first | ((with_reducible refine Br.tt ?_); conv => whnf) | ((with_reducible refine Br.ff ?_); conv => whnf))
    | ((with_reducible refine Nc.go' (fun _ => ?_)); conv => whnf)
    | (refine Ld.at 0 rfl rfl ?_; conv => whnf)
    | ((with_reducible refine Br.ds (fun _ => ?_) (fun _ => ?_) ) <;> (conv => whnf)))
  all_goals (refine Is.ent ?_ ?_; (focus (refine FEnt.ent ?_; (repeat (first | exact FEnt.rfl | refine FEnt.drop ?_)); done)); (first | exact Is.ff (by omega) | (refine Is.dec ?_; omega)))
theorem Tryz.spanIn (f t n : Int) (L : List HP) : Con Tryz.prog 44 [spV f t, .int .i64 n] L (Is (.bool (decide (isS f t ∧ t ≤ n))) L) := by
  refine con_of Tryz.tysOk Tryz.func44 rfl rfl ?_
  conv => whnf
  repeat' (first
    | (first | ((with_reducible refine Br.tt ?_); conv => whnf) | ((with_reducible refine Br.ff ?_); conv => whnf))
    | ((with_reducible refine Nc.go' (fun _ => ?_)); conv => whnf)
    | (refine Ld.at 0 rfl rfl ?_; conv => whnf)
    | (refine LdN.at 0 rfl (by first | exact Nat.le_of_ble_eq_true rfl | (simp; done)) ?_; conv => whnf)
    | ((with_reducible refine Cl.is (Tryz.spanIs _ _ _) ?_); conv => whnf)
    | ((with_reducible refine Br.ds (fun _ => ?_) (fun _ => ?_) ) <;> (conv => whnf)))
  all_goals (refine Is.ent ?_ ?_; (focus (refine FEnt.ent ?_; (repeat (first | exact FEnt.rfl | refine FEnt.drop ?_)); done)); (first | exact Is.ff (by omega) | (refine Is.dec ?_; omega)))
theorem Tryz.refHolds (f t n : Int) (L : List HP) : Con Tryz.prog 62 [spV f t, .int .i64 n] L (Is (.bool (decide (0 ≤ f ∧ f ≤ n ∧ n < t))) L) := by
  refine con_of Tryz.tysOk Tryz.func62 rfl rfl ?_
  conv => whnf
  repeat' (first
    | (first | ((with_reducible refine Br.tt ?_); conv => whnf) | ((with_reducible refine Br.ff ?_); conv => whnf))
    | ((with_reducible refine Nc.go' (fun _ => ?_)); conv => whnf)
    | (refine Ld.at 0 rfl rfl ?_; conv => whnf)
    | ((with_reducible refine Br.ds (fun _ => ?_) (fun _ => ?_) ) <;> (conv => whnf)))
  all_goals (refine Is.ent ?_ ?_; (focus (refine FEnt.ent ?_; (repeat (first | exact FEnt.rfl | refine FEnt.drop ?_)); done)); (first | exact Is.ff (by omega) | (refine Is.dec ?_; omega)))
theorem Tryz.refIs (f t : Int) (L : List HP) : Con Tryz.prog 61 [spV f t] L (Is (.bool (decide (isS f t))) L) := by
  refine con_of Tryz.tysOk Tryz.func61 rfl rfl ?_
  conv => whnf
  repeat' (first
    | ((with_reducible refine Nc.go' (fun _ => ?_)); conv => whnf)
    | (refine Ld.at 0 rfl rfl ?_; conv => whnf)
    | (refine LdN.at 0 rfl (by first | exact Nat.le_of_ble_eq_true rfl | (simp; done)) ?_; conv => whnf)
    | ((with_reducible refine Cl.is (Tryz.refHolds _ _ _ _) ?_); conv => whnf))
  all_goals (refine Is.ent ?_ ?_; (focus (refine FEnt.ent ?_; (repeat (first | exact FEnt.rfl | refine FEnt.drop ?_)); done)); (refine Is.dec ?_; omega))
/-- do two spans meet? -/
abbrev meetS (f t g u : Int) : Prop := isS f t ∧ isS g u ∧ f < u ∧ g < t
theorem Tryz.spanMeet (f t g u : Int) (L : List HP) : Con Tryz.prog 48 [spV f t, spV g u] L
    (Is (.tuple #[spV (if meetS f t g u then max f g else 0) (if meetS f t g u then min t u else 0), .bool (decide (meetS f t g u))]) L) := by
  refine con_of Tryz.tysOk Tryz.func48 rfl rfl ?_
  conv => whnf
  repeat' (first
    | (first | ((with_reducible refine Br.tt ?_); conv => whnf) | ((with_reducible refine Br.ff ?_); conv => whnf))
    | ((with_reducible refine Nd.mk ?_ ?_); (focus (first | omega | rfl | assumption | (simp; done))); conv => whnf)
    | ((with_reducible refine Nc.go' (fun _ => ?_)); conv => whnf)
    | (first | (refine Ld.at 1 rfl rfl ?_; conv => whnf) | (refine Ld.at 2 rfl rfl ?_; conv => whnf))
    | (first | (refine LdN.at 0 rfl (by first | exact Nat.le_of_ble_eq_true rfl | (simp; done)) ?_; conv => whnf) | (refine LdN.at 1 rfl (by first | exact Nat.le_of_ble_eq_true rfl | (simp; done)) ?_; conv => whnf) | (refine LdN.at 2 rfl (by first | exact Nat.le_of_ble_eq_true rfl | (simp; done)) ?_; conv => whnf))
    | (first | (refine St.at 0 rfl (by first | exact Nat.le_of_ble_eq_true rfl | (simp; done)) rfl ?_; conv => whnf) | (refine St.at 1 rfl (by first | exact Nat.le_of_ble_eq_true rfl | (simp; done)) rfl ?_; conv => whnf))
    | ((with_reducible refine Cl.is (Tryz.spanIs _ _ _) ?_); conv => whnf)
    | ((with_reducible refine Br.nds (fun _ => ?_) (fun _ => ?_) ) <;> (conv => whnf)))
  all_goals (refine Is.ent ?_ ?_; (focus (refine FEnt.ent ?_; (repeat (first | exact FEnt.rfl | refine FEnt.drop ?_)); done)); (skip))
  · exact Is.val (by rw [if_neg (by omega), if_neg (by omega), decide_eq_false (by omega)]; rfl)
  · exact Is.val (by rw [if_neg (by omega), if_neg (by omega), decide_eq_false (by omega)]; rfl)
  · exact Is.val (by rw [if_neg (by omega), if_neg (by omega), decide_eq_false (by omega)]; rfl)
  · exact Is.val (by rw [if_pos (by omega), if_pos (by omega), decide_eq_true (by omega)]; rfl)
theorem Tryz.spanMeetT (f t g u : Int) (L : List HP) (h : meetS f t g u) : Con Tryz.prog 48 [spV f t, spV g u] L (Is (.tuple #[spV (max f g) (min t u), .bool true]) L) := by
  have := Tryz.spanMeet f t g u L
  rwa [if_pos h, if_pos h, decide_eq_true h] at this
theorem Tryz.spanMeetF (f t g u : Int) (L : List HP) (h : ¬ meetS f t g u) : Con Tryz.prog 48 [spV f t, spV g u] L (Is (.tuple #[spV 0 0, .bool false]) L) := by
  have := Tryz.spanMeet f t g u L
  rwa [if_neg h, if_neg h, decide_eq_false h] at this
theorem Tryz.refMeets (f t g u : Int) (L : List HP) : Con Tryz.prog 39 [spV f t, spV g u] L (Is (.bool (decide (meetS f t g u))) L) := by
  refine con_of Tryz.tysOk Tryz.func39 rfl rfl ?_
  conv => whnf
  repeat' (first
    | (first | ((with_reducible refine Br.tt ?_); conv => whnf) | ((with_reducible refine Br.ff ?_); conv => whnf))
    | ((with_reducible refine Nc.go' (fun _ => ?_)); conv => whnf)
    | (first | (refine Ld.at 0 rfl rfl ?_; conv => whnf) | (refine Ld.at 1 rfl rfl ?_; conv => whnf))
    | (first | (refine LdN.at 0 rfl (by first | exact Nat.le_of_ble_eq_true rfl | (simp; done)) ?_; conv => whnf) | (refine LdN.at 1 rfl (by first | exact Nat.le_of_ble_eq_true rfl | (simp; done)) ?_; conv => whnf))
    | (first | ((with_reducible refine Cl.is (Tryz.refIs _ _ _) ?_); conv => whnf) | ((with_reducible refine Cl.is (Tryz.refHolds _ _ _ _) ?_); conv => whnf))
    | ((with_reducible refine Br.ds (fun _ => ?_) (fun _ => ?_) ) <;> (conv => whnf)))
  all_goals (refine Is.ent ?_ ?_; (focus (refine FEnt.ent ?_; (repeat (first | exact FEnt.rfl | refine FEnt.drop ?_)); done)); (first | exact Is.tt (by omega) | exact Is.ff (by omega) | (refine Is.dec ?_; omega)))
/-- the order of the sort -/
def cmpI (a b : Int) : Int := if a < b then -1 else if b < a then 1 else 0
theorem Tryz.isNaN (a : Int) (L : List HP) : Con Tryz.prog 101 [.int .i64 a] L (Is (.bool false) L) := by
  refine con_of Tryz.tysOk Tryz.func101 rfl rfl ?_
  conv => whnf
  repeat' skip
  all_goals (refine Is.ent ?_ ?_; (focus (exact Ent.rfl)); (exact Is.bool (by simp)))
theorem Tryz.compare (a b : Int) (L : List HP) : Con Tryz.prog 95 [.int .i64 a, .int .i64 b] L (Is (.int .i64 (cmpI a b)) L) := by
  refine con_of Tryz.tysOk Tryz.func95 rfl rfl ?_
  conv => whnf
  repeat' (first
    | ((with_reducible refine Br.ff ?_); conv => whnf)
    | ((with_reducible refine Cl.is (Tryz.isNaN _ _) ?_); conv => whnf)
    | ((with_reducible refine Br.ds (fun _ => ?_) (fun _ => ?_) ) <;> (conv => whnf)))
  all_goals (unfold cmpI; (refine Is.ent ?_ ?_; (focus (exact Ent.rfl)); (refine Is.int ?_; omega)))
def spC (f t g u : Int) : Int := if cmpI f g = 0 then cmpI t u else cmpI f g
abbrev ltS (x y : Sp) : Prop := x.1 < y.1 ∨ x.1 = y.1 ∧ x.2 < y.2
abbrev leS (x y : Sp) : Prop := ¬ ltS y x
theorem spC_lt (f t g u : Int) : spC f t g u < 0 ↔ ltS (f, t) (g, u) := by
  unfold spC cmpI ltS
  simp only
  repeat' split
  all_goals omega
theorem Tryz.sortedCmp (f t g u : Int) (L : List HP) : Con Tryz.prog 94 [spV f t, spV g u] L (Is (.int .i64 (spC f t g u)) L) := by
  unfold spC
  refine con_of Tryz.tysOk Tryz.func94 rfl rfl ?_
  conv => whnf
  repeat' (first
    | ((with_reducible refine Nc.go' (fun _ => ?_)); conv => whnf)
    | (first | (refine Ld.at 0 rfl rfl ?_; conv => whnf) | (refine Ld.at 1 rfl rfl ?_; conv => whnf))
    | ((with_reducible refine Cl.is (Tryz.compare _ _ _) ?_); conv => whnf)
    | ((with_reducible refine Br.nds (fun _ => ?_) (fun _ => ?_) ) <;> (conv => whnf)))
  all_goals (refine Is.ent ?_ ?_; (focus (refine FEnt.ent ?_; (repeat (first | exact FEnt.rfl | refine FEnt.drop ?_)); done)); (refine Is.int ?_; omega))
end Go.Proofs
