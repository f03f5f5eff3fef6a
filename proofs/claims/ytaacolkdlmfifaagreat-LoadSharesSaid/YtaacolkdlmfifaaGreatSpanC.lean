/- Spans: copies, and what is sorted. -/
import Derived.Test.YtaacolkdlmfifaaGreatSortE
set_option linter.all false
namespace Go.Proofs
open Go.Eng
set_option linter.unusedVariables false
set_option maxRecDepth 100000

theorem Tryz.sortStable (a : Option Addr) (c : Nat) (xs : List Sp) (L : List HP) (t : TypeId) (n : Nat) (hn : n = xs.length) (hl : n ≤ 1099511627776) (had : Ad a n) :
    Con Tryz.prog 93 [.slice a n c, cmpV] (own spE t a c xs :: L) (Turns spE t a c (Sorted xs) L) := by
  refine con_of Tryz.tysOk Tryz.func93 rfl rfl ?_
  conv => whnf
  repeat' ((refine Cl.turns (Tryz.stable a c xs L t n n hn (by rw [hn]) hl had) (fun ys hys => ?_)); conv => whnf)
  exact Turns.of _ hys Ent.rfl
theorem Tryz.clone (a : Option Addr) (c : Nat) (xs : List Sp) (L : List HP) (hl : xs.length ≤ 1099511627776) (hr : Rd spE L a xs) :
    Con Tryz.prog 92 [.slice a xs.length c] L (New spE 65 xs L) := by
  refine con_of Tryz.tysOk Tryz.func92 rfl rfl ?_
  conv => whnf
  repeat' (first
    | ((with_reducible refine Nc.go' (fun b => ?_)); conv => whnf)
    | ((refine Sm.app Tryz.tysOk (Ent.own (E := spE) [] rfl (Nat.zero_le _)) (by ((repeat (first | assumption | refine Rd.cons ?_)); done)) rfl rfl rfl rfl rfl rfl (by simp; omega) (by show _ * 16 ≤ 140737488355328; simp only [List.length_nil]; omega) (fun a2 c2 hc2 had2 => ?_)); conv => whnf)
    | ((with_reducible refine Br.bs (fun _ => ?_) (fun _ => ?_) ) <;> (conv => whnf)))
  · rename_i h
    have hx : xs = [] := by
      rcases xs with _ | ⟨x, xs⟩
      · rfl
      · have := hr.ad (by simp)
        rw [this] at h; cases h
    subst hx
    exact New.nil Ent.rfl
  · exact New.of rfl hc2 had2 Ent.rfl
/-- the sorted row -/
theorem srt_uniq : ∀ {xs ys : List Sp}, xs.Perm ys → Srt xs → Srt ys → xs = ys := by
  intro xs ys hp hx hy
  exact hp.eq_of_pairwise (fun a b _ _ h1 h2 => by unfold leS ltS at *; exact Prod.ext (by omega) (by omega)) hx hy
noncomputable def sortF (xs : List Sp) : List Sp := Classical.epsilon (Sorted xs)
theorem sortF_eq {xs ys : List Sp} (h : Sorted xs ys) : sortF xs = ys := by
  have := Classical.epsilon_spec (p := Sorted xs) ⟨ys, h⟩
  exact srt_uniq (this.1.trans h.1.symm) this.2 h.2
theorem Tryz.spanSorted (a : Option Addr) (c : Nat) (xs : List Sp) (L : List HP) (hl : xs.length ≤ 1099511627776) (hr : Rd spE L a xs) :
    Con Tryz.prog 58 [.slice a xs.length c] L (New spE 65 (sortF xs) L) := by
  refine con_of Tryz.tysOk Tryz.func58 rfl rfl ?_
  conv => whnf
  repeat' (first
    | ((refine Cl.new (Tryz.clone a c xs L hl hr) (fun a2 c2 hc2 had2 => ?_)); conv => whnf)
    | ((refine Cl.turns (Tryz.sortStable a2 c2 xs L _ _ rfl hl had2) (fun ys hys => ?_)); conv => whnf))
  rw [sortF_eq hys]
  exact New.of hys.1.length_eq.symm (by rw [hys.1.length_eq]; exact hc2) (by rw [hys.1.length_eq]; exact had2) Ent.rfl
end Go.Proofs
