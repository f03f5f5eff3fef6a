/- Spans: what must be whatever is asked; gaps; the document's rows. -/
import Derived.Test.YtmbdngkplfolcaaSpanE
namespace Go.Proofs
open Go.Eng
set_option linter.unusedVariables false
set_option maxRecDepth 100000

theorem live_merge : mergeF [(5, 7), (1, 3), (3, 4)] = [(1, 4), (5, 7)] := by
  unfold mergeF
  rw [sortF_eq (ys := [(1, 3), (3, 4), (5, 7)]) ⟨by decide, by simp [Srt, leS, ltS]⟩]
  decide
theorem live_merge2 : mergeF [(1, 4), (5, 7)] = [(1, 4), (5, 7)] := by
  unfold mergeF
  rw [sortF_eq (ys := [(1, 4), (5, 7)]) ⟨by decide, by simp [Srt, leS, ltS]⟩]
  decide
theorem Try.spanLive (L : List HP) : Con Try.prog 9 [] L (Is (.bool true) L) := by
  refine con_of Try.tysOk Try.func9 rfl rfl ?_
  conv => whnf
  repeat' (first
    | (first | ((with_reducible refine Br.tt ?_); conv => whnf) | ((with_reducible refine Br.ff ?_); conv => whnf))
    | ((with_reducible refine Nd.mk ?_ ?_); (focus (first | omega | rfl | assumption | (simp; done))); conv => whnf)
    | ((with_reducible refine Nc.go' (fun b => ?_)); conv => whnf)
    | ((with_reducible refine Ix.ad ?_ ?_ ?_); (focus (assumption)); (focus (omega)); conv => whnf)
    | ((apply LdN.rd); (focus ((repeat ((refine Rd.own 0 rfl ?_); (assumption))); done)); (focus rfl); (focus rfl); (focus (omega)); conv => whnf)
    | ((with_reducible refine Cl.is (Try.spanIs _ _ _) ?_); conv => whnf)
    | ((refine Cl.new (Try.spanMerge _ _ [(5, 7), (1, 3), (3, 4)] _ (by simp) (Rd.ptc 0 rfl _ rfl)) (fun a1 c1 hc1 had1 => ?_); rw [live_merge] at hc1 had1 ⊢); conv => whnf)
    | ((refine Cl.is (Try.spanTotal _ _ [(1, 4), (5, 7)] _ (by simp) (by simp) (by ((repeat ((refine Rd.own 0 rfl ?_); (assumption))); done))) ?_; rw [live_merge2]); conv => whnf)
    | ((with_reducible refine Br.ds (fun _ => ?_) (fun _ => ?_) ) <;> (conv => whnf)))
  all_goals (refine Is.ent ?_ ?_; (focus (refine FEnt.ent ?_; (repeat (first | exact FEnt.rfl | refine FEnt.drop ?_)); done)); (first | exact Is.rfl | exact Is.ff (by omega)))
end Go.Proofs
