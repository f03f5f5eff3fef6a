/- Spans: the gaps. -/
import Derived.Test.YtaacolkdlmfifaaGreatSpanG
set_option linter.all false
namespace Go.Proofs
open Go.Eng
set_option linter.unusedVariables false
set_option maxRecDepth 100000
set_option maxHeartbeats 600000

/-- where the last span that was seen ends -/
def atF (M : List Sp) : Nat → Int
  | 0 => 0
  | k + 1 => (M.getD k spE.d).2
theorem atF_pos {M : List Sp} {k : Nat} (h : 0 < k) : atF M k = (M.getD (k - 1) spE.d).2 := by
  cases k with
  | zero => omega
  | succ k => rfl
theorem canon_lt {M : List Sp} (hM : Canon M) {i j : Nat} (hij : i < j) (hj : j < M.length) : (M.getD i spE.d).2 < (M.getD j spE.d).1 := by
  have := List.pairwise_iff_getElem.1 hM.ap i j (by omega) hj hij
  simpa [List.getD, hj, show i < M.length from by omega] using this
theorem Tryz.spanGaps (n : Int) (a : Option Addr) (c : Nat) (xs : List Sp) (L : List HP) (hl : xs.length ≤ 1000000) (hr : Rd spE L a xs) :
    Con Tryz.prog 23 [.int .i64 n, .slice a xs.length c] L (New spE 65 (runF n (fun m => ¬ inS xs m)) L) := by
  have hml := mergeF_len xs
  obtain ⟨hM, hin⟩ := merge_inv xs
  refine con_of Tryz.tysOk Tryz.func23 rfl rfl ?_
  conv => whnf
  repeat' ((with_reducible refine Cl.new (Tryz.spanMerge _ _ xs _ (by omega) (by ((repeat (assumption)); done))) (fun _ _ _ _ => ?_)); conv => whnf)
  rename_i a1 c1 hc1 had1
  generalize hS : mergeF xs = S at *
  have hend : ∀ {ys}, RunsOf n (fun m => ¬ inS S m) ys → runF n (fun m => ¬ inS xs m) = ys := fun h => runF_eq ⟨h.canon, fun m => (h.same m).trans (by rw [hin])⟩
  conv => whnf
  refine Lp.by4 Tryz.tysOk [12, 5, 6] (fun (k : Nat) (out : List Sp) (a2 : Option Addr) (c2 : Nat) => [.int .i64 k, .slice a2 out.length c2, .int .i64 (atF S k)]) (fun k out a2 c2 => own spE 65 a2 c2 out :: own spE 65 a1 c1 S :: L) (fun k out a2 c2 => k ≤ S.length ∧ GInv S k (atF S k) out ∧ Ad a2 out.length ∧ out.length ≤ c2 ∧ out.length ≤ k ∧ (0 < k → (S.getD (k - 1) spE.d).1 < n)) (fun k out a2 c2 => S.length - k) (0) ([]) (none) (0) (by kernel_rfl) (by (exact Ent.nil)) (⟨by omega, gap_start, fun h => (h rfl).elim, by simp, by simp, fun h => by omega⟩) ?_
  rintro k out a2 c2 ⟨h1, h2, h3, h4, h5, h6⟩
  conv => whnf
  repeat (intro _; conv => whnf)
  by_cases hk : k < S.length
  · by_cases hn : n ≤ (S.getD k spE.d).1
    · have he := gap_end hM h1 h2 (fun j j1 j2 => by
        by_cases e : j = k
        · rw [e]; exact hn
        · have := canon_lt hM (show k < j by omega) j2
          have := hM.is _ (getD_mem (d := spE.d) hk)
          omega) h6
      by_cases hat : atF S k < n
      · rw [if_pos hat] at he
        rw [hend he]
        conv => whnf
        repeat' (first
          | ((with_reducible refine Br.dt ?_ ?_); (focus (first | assumption | omega)); conv => whnf)
          | ((with_reducible refine Nd.mk ?_ ?_); (focus (first | omega | rfl | assumption | (simp; done))); conv => whnf)
          | ((with_reducible refine Nc.go' (fun _ => ?_)); conv => whnf)
          | ((with_reducible refine Ix.ad ?_ ?_ ?_); (focus (assumption)); (focus (omega)); conv => whnf)
          | (refine Ld.at 0 rfl rfl ?_; conv => whnf)
          | ((with_reducible apply LdN.rdk); (focus ((repeat ((refine Rd.own 1 rfl ?_); (assumption))); done)); (focus rfl); (focus rfl); (focus (omega)); conv => whnf)
          | (refine St.at 0 rfl (by first | exact Nat.le_of_ble_eq_true rfl | (simp; done)) rfl ?_; conv => whnf)
          | ((with_reducible refine (?_ : Sm _ (Builtin.append_ _ _ _) _ _)); (((with_reducible apply (Sm.appAt (E := spE) (et := 65) Tryz.tysOk 2)); (focus rfl)); (rotate_left; (focus (exact Rd.ptc 0 rfl [(_, _)] rfl)); rotate_right; (focus rfl)); (focus rfl); (focus rfl); (focus rfl); (focus rfl); (focus rfl); (focus rfl); (focus ((simp only [List.length_append, List.length_cons, List.length_nil]); omega)); (intro _ _ _ _); conv => whnf)))
        rename_i a3 c3 hc3 had3
        exact New.of rfl hc3 had3 (by (refine FEnt.ent ?_; (repeat (first | exact FEnt.rfl | (refine FEnt.at 0 rfl ?_; (try simp only [List.eraseIdx_cons_zero, List.eraseIdx_cons_succ, List.eraseIdx_zero, List.tail_cons])) | refine FEnt.drop ?_)); done))
      · rw [if_neg hat] at he
        rw [hend he]
        conv => whnf
        repeat' (first
          | (first | ((with_reducible refine Br.dt ?_ ?_); (focus (first | assumption | omega)); conv => whnf) | ((with_reducible refine Br.df ?_ ?_); (focus (first | assumption | omega)); conv => whnf))
          | ((with_reducible refine Nd.mk ?_ ?_); (focus (first | omega | rfl | assumption | (simp; done))); conv => whnf)
          | ((with_reducible refine Nc.go' (fun _ => ?_)); conv => whnf)
          | ((with_reducible refine Ix.ad ?_ ?_ ?_); (focus (assumption)); (focus (omega)); conv => whnf)
          | (refine Ld.at 0 rfl rfl ?_; conv => whnf)
          | ((with_reducible apply LdN.rdk); (focus ((repeat ((refine Rd.own 1 rfl ?_); (assumption))); done)); (focus rfl); (focus rfl); (focus (omega)); conv => whnf)
          | (refine St.at 0 rfl (by first | exact Nat.le_of_ble_eq_true rfl | (simp; done)) rfl ?_; conv => whnf))
        exact New.of rfl h4 h3 (by (refine FEnt.ent ?_; (repeat (first | exact FEnt.rfl | (refine FEnt.at 1 rfl ?_; (try simp only [List.eraseIdx_cons_zero, List.eraseIdx_cons_succ, List.eraseIdx_zero, List.tail_cons])) | refine FEnt.drop ?_)); done))
    · have hs := gap_step hM hk h2
      by_cases hg : atF S k < (S.getD k spE.d).1
      · rw [if_pos hg] at hs
        conv => whnf
        repeat' (first
          | (first | ((with_reducible refine Br.dt ?_ ?_); (focus (first | assumption | omega)); conv => whnf) | ((with_reducible refine Br.df ?_ ?_); (focus (first | assumption | omega)); conv => whnf))
          | ((with_reducible refine Ar.i64 ?_ ?_); (focus omega); conv => whnf)
          | ((with_reducible refine Nd.mk ?_ ?_); (focus (first | omega | rfl | assumption | (simp; done))); conv => whnf)
          | ((with_reducible refine Nc.go' (fun _ => ?_)); conv => whnf)
          | ((with_reducible refine Ix.ad ?_ ?_ ?_); (focus (assumption)); (focus (omega)); conv => whnf)
          | (first | (refine Ld.at 0 rfl rfl ?_; conv => whnf) | (refine Ld.at 2 rfl rfl ?_; conv => whnf))
          | ((with_reducible apply LdN.rdk); (focus ((repeat ((refine Rd.own 1 rfl ?_); (assumption))); done)); (focus rfl); (focus rfl); (focus (omega)); conv => whnf)
          | (refine St.at 0 rfl (by first | exact Nat.le_of_ble_eq_true rfl | (simp; done)) rfl ?_; conv => whnf)
          | ((with_reducible refine (?_ : Sm _ (Builtin.append_ _ _ _) _ _)); (((with_reducible apply (Sm.appAt (E := spE) (et := 65) Tryz.tysOk 2)); (focus rfl)); (rotate_left; (focus (exact Rd.ptc 0 rfl [(_, _)] rfl)); rotate_right; (focus rfl)); (focus rfl); (focus rfl); (focus rfl); (focus rfl); (focus rfl); (focus rfl); (focus ((simp only [List.length_append, List.length_cons, List.length_nil]); omega)); (intro _ _ _ _); conv => whnf)))
        rename_i a3 c3 hc3 had3
        refine ⟨k + 1, _, a3, c3, by kernel_rfl, by (refine FEnt.ent ?_; (repeat (first | exact FEnt.rfl | (refine FEnt.at 0 rfl ?_; (try simp only [List.eraseIdx_cons_zero, List.eraseIdx_cons_succ, List.eraseIdx_zero, List.tail_cons])) | (refine FEnt.at 2 rfl ?_; (try simp only [List.eraseIdx_cons_zero, List.eraseIdx_cons_succ, List.eraseIdx_zero, List.tail_cons])) | refine FEnt.drop ?_)); done), ⟨by omega, hs, had3, hc3, by simp; omega, fun _ => by rw [Nat.add_sub_cancel]; omega⟩, by omega⟩
      · rw [if_neg hg] at hs
        conv => whnf
        repeat' (first
          | (first | ((with_reducible refine Br.dt ?_ ?_); (focus (first | assumption | omega)); conv => whnf) | ((with_reducible refine Br.df ?_ ?_); (focus (first | assumption | omega)); conv => whnf))
          | ((with_reducible refine Ar.i64 ?_ ?_); (focus omega); conv => whnf)
          | ((with_reducible refine Nd.mk ?_ ?_); (focus (first | omega | rfl | assumption | (simp; done))); conv => whnf)
          | ((with_reducible refine Nc.go' (fun _ => ?_)); conv => whnf)
          | ((with_reducible refine Ix.ad ?_ ?_ ?_); (focus (assumption)); (focus (omega)); conv => whnf)
          | (refine Ld.at 0 rfl rfl ?_; conv => whnf)
          | ((with_reducible apply LdN.rdk); (focus ((repeat ((refine Rd.own 1 rfl ?_); (assumption))); done)); (focus rfl); (focus rfl); (focus (omega)); conv => whnf)
          | (refine St.at 0 rfl (by first | exact Nat.le_of_ble_eq_true rfl | (simp; done)) rfl ?_; conv => whnf))
        refine ⟨k + 1, out, a2, c2, by kernel_rfl, by (refine FEnt.ent ?_; (repeat (first | exact FEnt.rfl | (refine FEnt.at 1 rfl ?_; (try simp only [List.eraseIdx_cons_zero, List.eraseIdx_cons_succ, List.eraseIdx_zero, List.tail_cons])) | refine FEnt.drop ?_)); done), ⟨by omega, hs, h3, h4, by omega, fun _ => by rw [Nat.add_sub_cancel]; omega⟩, by omega⟩
  · have he := gap_end hM h1 h2 (fun j j1 j2 => by omega) h6
    by_cases hat : atF S k < n
    · rw [if_pos hat] at he
      rw [hend he]
      conv => whnf
      repeat' (first
        | (first | ((with_reducible refine Br.dt ?_ ?_); (focus (first | assumption | omega)); conv => whnf) | ((with_reducible refine Br.df ?_ ?_); (focus (first | assumption | omega)); conv => whnf))
        | ((with_reducible refine Nc.go' (fun _ => ?_)); conv => whnf)
        | ((with_reducible refine (?_ : Sm _ (Builtin.append_ _ _ _) _ _)); (((with_reducible apply (Sm.appAt (E := spE) (et := 65) Tryz.tysOk 1)); (focus rfl)); (rotate_left; (focus (exact Rd.ptc 0 rfl [(_, _)] rfl)); rotate_right; (focus rfl)); (focus rfl); (focus rfl); (focus rfl); (focus rfl); (focus rfl); (focus rfl); (focus ((simp only [List.length_append, List.length_cons, List.length_nil]); omega)); (intro _ _ _ _); conv => whnf)))
      rename_i a3 c3 hc3 had3
      exact New.of rfl hc3 had3 (by (refine FEnt.ent ?_; (repeat (first | exact FEnt.rfl | (refine FEnt.at 0 rfl ?_; (try simp only [List.eraseIdx_cons_zero, List.eraseIdx_cons_succ, List.eraseIdx_zero, List.tail_cons])) | refine FEnt.drop ?_)); done))
    · rw [if_neg hat] at he
      rw [hend he]
      conv => whnf
      repeat' ((with_reducible refine Br.df ?_ ?_); (focus (first | assumption | omega)); conv => whnf)
      exact New.of rfl h4 h3 (by (refine FEnt.ent ?_; (repeat (first | exact FEnt.rfl | (refine FEnt.at 0 rfl ?_; (try simp only [List.eraseIdx_cons_zero, List.eraseIdx_cons_succ, List.eraseIdx_zero, List.tail_cons])) | refine FEnt.drop ?_)); done))
end Go.Proofs
