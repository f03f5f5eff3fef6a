/- The spans' law of gaps, as a contract. -/
import Derived.Test.YtmbdngkplfolcaaSpanLaws
namespace Go.Proofs
open Go.Eng
set_option linter.unusedVariables false
set_option maxRecDepth 100000
set_option maxHeartbeats 600000

theorem runs_pos (n : Nat) (p : Int → Prop) : RunsOf n p (runF n p) := by
  have key : ∀ n : Nat, ∃ ys, RunsOf n p ys := by
    intro n
    induction n with
    | zero => exact ⟨[], runs_nil (by omega)⟩
    | succ n ih =>
      obtain ⟨out, h⟩ := ih
      rw [Int.natCast_add]
      by_cases hp : p n
      · by_cases hl : out ≠ [] ∧ (lastS out).2 = n
        · exact ⟨_, runs_more h (by omega) hp hl.1 hl.2⟩
        · exact ⟨_, runs_new h (by omega) hp (by by_cases e : out = []; exact .inl e; exact .inr fun q => hl ⟨e, q⟩)⟩
      · exact ⟨_, runs_skip h hp⟩
  exact Classical.epsilon_spec (key n)
theorem runs_ok {n : Int} {p : Int → Prop} : RunsOf n p (runF n p) := by
  by_cases h : 0 ≤ n
  · obtain ⟨m, rfl⟩ := Int.eq_ofNat_of_zero_le h
    exact runs_pos m p
  · rw [runF_eq (runs_nil (by omega))]; exact runs_nil (by omega)
theorem Try.spanGapsLaw (n : Int) (a : Option Addr) (c : Nat) (xs : List Sp) (L : List HP) (hc : xs.length ≤ c) (hm : c ≤ 9223372036854775807) (hr : Rd spE L a xs) : Con Try.prog 6 [.int .i64 n, .slice a xs.length c] L (Is (.bool true) L) := by
  by_cases hn : n > 300
  · refine con_of Try.tysOk Try.func6 rfl rfl ?_
    conv => whnf
    repeat' (first
      | (first | ((with_reducible refine Br.tt ?_); conv => whnf) | ((with_reducible refine Br.dt ?_ ?_); (focus (first | assumption | omega)); conv => whnf))
      | ((with_reducible refine Cl.is (Try.spanLive _) ?_); conv => whnf))
    all_goals (refine Is.ent ?_ ?_; (focus (exact Ent.rfl)); (exact Is.rfl))
  · by_cases hs : smallS xs
    · have hsl := hs.1
      have e1 : (fun m => inS xs m ↔ false = true) = fun m => ¬ inS xs m := by funext m; simp
      have e2 : (fun m => inS xs m ↔ true = true) = fun m => inS xs m := by funext m; simp
      have hg : RunsOf n (fun m => ¬ inS xs m) (runF n (fun m => ¬ inS xs m)) := runs_ok
      have ht : RunsOf 300 (fun m => inS xs m) (runF 300 (fun m => inS xs m)) := runs_ok
      have hgl : (runF n (fun m => ¬ inS xs m)).length ≤ 300 := by
        by_cases h : 0 ≤ n
        · obtain ⟨m, rfl⟩ := Int.eq_ofNat_of_zero_le h
          have := runs_len hg
          omega
        · rw [runF_eq (runs_nil (by omega))]; simp
      have htl : (runF 300 (fun m => inS xs m)).length ≤ 300 := runs_len ht
      have hneg : (firstF (runF n (fun m => ¬ inS xs m) ++ runF 300 (fun m => inS xs m))).1 < 0 := by
        refine pairs_neg (List.pairwise_append.2 ⟨canon_apart hg.canon, canon_apart ht.canon, fun x hx y hy hmt => ?_⟩)
        obtain ⟨m1, m2, m3, m4⟩ := hmt
        have g1 := (hg.same (max x.1 y.1)).1 ⟨x, hx, by omega⟩
        have g2 := (ht.same (max x.1 y.1)).1 ⟨y, hy, by omega⟩
        exact g1.2.2 g2.2.2
      have hG2 : runF n (fun m => inS xs m ↔ false = true) = runF n (fun m => ¬ inS xs m) := by rw [e1]
      have hT : runF 300 (fun m => inS xs m ↔ true = true) = runF 300 (fun m => inS xs m) := by rw [e2]
      have hfn := hg.same
      clear e1 e2
      generalize hG : runF n (fun m => ¬ inS xs m) = G at *
      generalize runF 300 (fun m => inS xs m) = T at *
      refine con_of Try.tysOk Try.func6 rfl rfl ?_
      conv => whnf
      repeat' (first
        | (first | ((with_reducible refine Br.ff ?_); conv => whnf) | ((with_reducible refine Br.nt ?_); conv => whnf) | ((with_reducible refine Br.df ?_ ?_); (focus (first | assumption | omega)); conv => whnf))
        | ((with_reducible refine Nd.mk ?_ ?_); (focus (first | omega | rfl | assumption | (simp; done))); conv => whnf)
        | ((with_reducible refine Nc.go' (fun b => ?_)); conv => whnf)
        | (first | ((with_reducible refine Cl.is (Con.dt hs (Try.refSmall _ _ _ _ (by ((repeat (assumption)); done)))) ?_); conv => whnf) | ((with_reducible refine Cl.new (hG ▸ Try.spanGaps n _ _ xs _ (by omega) (by ((repeat (assumption)); done))) (fun _ _ _ _ => ?_)); conv => whnf) | ((with_reducible refine Cl.new (hT ▸ Try.refRuns 300 (by omega) _ _ xs true _ (by omega) (by ((repeat (first | assumption | apply Rd.cons)); done))) (fun _ _ _ _ => ?_)); conv => whnf) | ((with_reducible refine Cl.is (Try.refFirst _ _ (G ++ T) _ (by (simp only [List.length_set, List.length_append, List.length_take, List.length_drop, List.length_cons, List.length_nil] at *; omega)) (by ((repeat ((refine Rd.own 0 rfl ?_); (assumption))); done))) ?_); conv => whnf))
        | (first | ((first | ((with_reducible apply (Sm.appAt (E := spE) (et := 29) Try.tysOk 0)); (focus rfl)) | ((with_reducible apply (Sm.appAt (E := spE) (et := 29) Try.tysOk 1)); (focus rfl))); ((focus rfl); (focus ((repeat (first | assumption | ((refine Rd.own 0 rfl ?_); (assumption)) | apply Rd.cons)); done))); (focus rfl); (focus rfl); (focus rfl); (focus rfl); (focus rfl); (focus rfl); (focus (omega)); (intro _ _ _ _); conv => whnf) | (((with_reducible_and_instances apply (Sm.appNew (E := spE) (et := 29) Try.tysOk 0)); (focus rfl)); ((focus rfl); (focus ((repeat ((first | refine Rd.own 1 rfl ?_ | refine Rd.own 2 rfl ?_); (assumption))); done))); (focus rfl); (focus rfl); (focus rfl); (focus rfl); (focus rfl); (focus (omega)); (intro _ _ _ _); conv => whnf)))
      rename_i a1 c1 hc1 had1 b1 a2 c2 hc2 had2 a3 c3 hc3 had3 a4 c4 hc4 had4 a5 c5 hc5 had5 a6 c6 hc6 had6
      conv => whnf
      refine Lp.by Try.tysOk [10, 9] (fun (k : Nat) => [.int .i64 k, .bool true]) (fun k => own spE 29 a3 c3 (G ++ xs) :: own spE 29 a1 c1 G :: L) (fun k => k = 0 ∨ (k : Int) ≤ n) (fun k => (n - k).toNat) (0) (by kernel_rfl) (by (refine FEnt.ent ?_; (repeat (first | exact FEnt.rfl | (refine FEnt.at 2 rfl ?_; (try simp only [List.eraseIdx_cons_zero, List.eraseIdx_cons_succ, List.eraseIdx_zero, List.tail_cons])) | refine FEnt.drop ?_)); done)) (.inl rfl) ?_
      rintro k h1
      conv => whnf
      repeat (intro _; conv => whnf)
      by_cases hk : (k : Int) < n
      · have hin : inS (G ++ xs) k := inS_append.2 (by
          by_cases h : inS xs k
          · exact .inr h
          · exact .inl ((hfn k).2 ⟨by omega, hk, h⟩))
        conv => whnf
        repeat' (first
          | (first | ((with_reducible refine Br.tt ?_); conv => whnf) | ((with_reducible refine Br.dt ?_ ?_); (focus (first | assumption | omega)); conv => whnf))
          | ((with_reducible refine Ar.i64 ?_ ?_); (focus omega); conv => whnf)
          | ((with_reducible refine Cl.is (Con.dt hin (Try.refIn _ _ (G ++ xs) _ _ (by (simp only [List.length_set, List.length_append, List.length_take, List.length_drop, List.length_cons, List.length_nil] at *; omega)) (by ((repeat ((refine Rd.own 0 rfl ?_); (assumption))); done)))) ?_); conv => whnf))
        refine ⟨k + 1, by kernel_rfl, by (exact Ent.rfl), .inr (by omega), by omega⟩
      · conv => whnf
        repeat' (first
          | (first | ((with_reducible refine Br.tt ?_); conv => whnf) | ((with_reducible refine Br.dt ?_ ?_); (focus (first | assumption | omega)); conv => whnf) | ((with_reducible refine Br.df ?_ ?_); (focus (first | assumption | omega)); conv => whnf))
          | (first | ((with_reducible refine Cl.is (Try.spanLive _) ?_); conv => whnf) | ((with_reducible refine Cl.new (hG2 ▸ Try.refRuns n (by omega) _ _ xs false _ (by omega) (by ((repeat (first | assumption | apply Rd.cons)); done))) (fun _ _ _ _ => ?_)); conv => whnf) | ((with_reducible refine Cl.is (Con.dt rfl (Try.refSame _ _ G _ _ G _ (by omega) (by ((repeat ((refine Rd.own 2 rfl ?_); (assumption))); done)) (by ((repeat ((refine Rd.own 0 rfl ?_); (assumption))); done)))) ?_); conv => whnf)))
        all_goals (refine Is.ent ?_ ?_; (focus (refine FEnt.ent ?_; (repeat (first | exact FEnt.rfl | refine FEnt.drop ?_)); done)); (exact Is.rfl))
    · refine con_of Try.tysOk Try.func6 rfl rfl ?_
      conv => whnf
      repeat' (first
        | (first | ((with_reducible refine Br.ff ?_); conv => whnf) | ((with_reducible refine Br.nf ?_); conv => whnf) | ((with_reducible refine Br.df ?_ ?_); (focus (first | assumption | omega)); conv => whnf))
        | (first | ((with_reducible refine Cl.is (Con.df hs (Try.refSmall _ _ _ _ (by ((repeat (assumption)); done)))) ?_); conv => whnf) | ((with_reducible refine Cl.is (Try.spanLive _) ?_); conv => whnf)))
      all_goals (refine Is.ent ?_ ?_; (focus (exact Ent.rfl)); (exact Is.rfl))
end Go.Proofs
