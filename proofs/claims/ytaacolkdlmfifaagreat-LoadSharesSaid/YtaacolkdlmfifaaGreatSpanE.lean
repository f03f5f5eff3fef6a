/- Spans: totals, and what must be whatever is asked. -/
import Derived.Test.YtaacolkdlmfifaaGreatSpanD
set_option linter.all false
namespace Go.Proofs
open Go.Eng
set_option linter.unusedVariables false
set_option maxRecDepth 100000

theorem mstep_ok {M : Int} {out : List Sp} {s : Sp} (h : ∀ y ∈ out, isS y.1 y.2 ∧ y.2 ≤ M) (hs : s.2 ≤ M) : ∀ y ∈ mstep out s, isS y.1 y.2 ∧ y.2 ≤ M := by
  intro y hy
  unfold mstep at hy
  split at hy
  · rename_i hi
    split at hy
    · rename_i hc
      have hm : lastS out ∈ out := getD_mem (by have := List.length_pos_iff.2 hc.1; omega)
      rcases List.mem_or_eq_of_mem_set hy with hy | rfl
      · exact h y hy
      · have := h _ hm
        simp only
        omega
    · rcases List.mem_append.1 hy with hy | hy
      · exact h y hy
      · rw [List.mem_singleton] at hy; subst hy; exact ⟨hi, hs⟩
  · exact h y hy
theorem merge_ok {M : Int} {xs : List Sp} (hs : ∀ x ∈ xs, x.2 ≤ M) : ∀ y ∈ mergeF xs, isS y.1 y.2 ∧ y.2 ≤ M := by
  have key : ∀ (zs out : List Sp), (∀ x ∈ zs, x.2 ≤ M) → (∀ y ∈ out, isS y.1 y.2 ∧ y.2 ≤ M) → ∀ y ∈ zs.foldl mstep out, isS y.1 y.2 ∧ y.2 ≤ M := by
    intro zs
    induction zs with
    | nil => exact fun out _ h => h
    | cons z zs ih => exact fun out hz h => ih _ (fun x hx => hz x (by simp [hx])) (mstep_ok h (hz z (by simp)))
  exact key _ [] (fun x hx => hs x ((sortF_spec xs).1.mem_iff.1 hx)) (by simp)
theorem mergeS_len : ∀ (zs out : List Sp), (zs.foldl mstep out).length ≤ out.length + zs.length := by
  intro zs
  induction zs with
  | nil => intro out; simp
  | cons z zs ih =>
    intro out
    have h1 := ih (mstep out z)
    have h2 := mstep_len out z
    simp only [List.foldl_cons, List.length_cons]
    omega
theorem mergeF_len (xs : List Sp) : (mergeF xs).length ≤ xs.length := by
  have := mergeS_len (sortF xs) []
  rw [sortF_len] at this
  simpa [mergeF, mergeS] using this

def totalS (ys : List Sp) : Int := (ys.map fun s => s.2 - s.1).sum
theorem totalS_take {ys : List Sp} {k : Nat} (h : k < ys.length) : totalS (ys.take (k + 1)) = totalS (ys.take k) + ((ys.getD k spE.d).2 - (ys.getD k spE.d).1) := by
  rw [take_snoc h]; simp [totalS]
theorem totalS_bd {ys : List Sp} (h : ∀ y ∈ ys, isS y.1 y.2 ∧ y.2 ≤ 1000000) : 0 ≤ totalS ys ∧ totalS ys ≤ 1000000 * ys.length := by
  induction ys with
  | nil => simp [totalS]
  | cons y ys ih =>
    have h1 := h y (by simp)
    have h2 := ih fun z hz => h z (by simp [hz])
    have e : totalS (y :: ys) = (y.2 - y.1) + totalS ys := by simp [totalS]
    have e2 : ((y :: ys).length : Int) = ys.length + 1 := by simp
    rw [e, e2]
    omega
theorem Tryz.spanTotal (a : Option Addr) (c : Nat) (xs : List Sp) (L : List HP) (hl : xs.length ≤ 1000000) (hb : ∀ x ∈ xs, x.2 ≤ 1000000) (hr : Rd spE L a xs) :
    Con Tryz.prog 22 [.slice a xs.length c] L (Is (.int .i64 (totalS (mergeF xs))) L) := by
  have hok := merge_ok hb
  have hml := mergeF_len xs
  refine con_of Tryz.tysOk Tryz.func22 rfl rfl ?_
  conv => whnf
  repeat' ((refine Cl.new (Tryz.spanMerge a c xs L (by omega) hr) (fun a1 c1 hc1 had1 => ?_)); conv => whnf)
  generalize hS : mergeF xs = S at *
  conv => whnf
  refine Lp.by2 Tryz.tysOk [9, 3] (fun (k : Nat) (n : Int) => [.int .i64 k, .int .i64 n]) (fun k n => own spE 65 a1 c1 S :: L) (fun k n => k ≤ S.length ∧ n = totalS (S.take k)) (fun k n => S.length - k) (0) (0) (by kernel_rfl) (by (exact Ent.rfl)) (⟨by omega, rfl⟩) ?_
  rintro k n ⟨h1, h2⟩
  conv => whnf
  repeat (intro _; conv => whnf)
  by_cases hk : k < S.length
  · have ht := totalS_take hk
    have hbd := totalS_bd (ys := S.take k) fun y hy => hok y (List.mem_of_mem_take hy)
    have hbe := hok _ (getD_mem (d := spE.d) hk)
    have hlt : ((S.take k).length : Int) ≤ 1000000 := by rw [List.length_take]; omega
    rw [← h2] at ht hbd
    conv => whnf
    repeat' (first
      | ((with_reducible refine Br.dt ?_ ?_); (focus (first | assumption | omega)); conv => whnf)
      | ((with_reducible refine Ar.i64 ?_ ?_); (focus omega); conv => whnf)
      | ((with_reducible refine Nd.mk ?_ ?_); (focus (first | omega | rfl | assumption | (simp; done))); conv => whnf)
      | ((with_reducible refine Nc.go' (fun b => ?_)); conv => whnf)
      | ((with_reducible refine Ix.ad ?_ ?_ ?_); (focus (assumption)); (focus (omega)); conv => whnf)
      | (refine Ld.at 0 rfl rfl ?_; conv => whnf)
      | ((with_reducible apply LdN.rdk); (focus ((repeat ((refine Rd.own 0 rfl ?_); (assumption))); done)); (focus rfl); (focus rfl); (focus (omega)); conv => whnf)
      | (refine St.at 0 rfl (by first | exact Nat.le_of_ble_eq_true rfl | (simp; done)) rfl ?_; conv => whnf))
    refine ⟨k + 1, _, by kernel_rfl, by (refine FEnt.ent ?_; (repeat (first | exact FEnt.rfl | (refine FEnt.at 1 rfl ?_; (try simp only [List.eraseIdx_cons_zero, List.eraseIdx_cons_succ, List.eraseIdx_zero, List.tail_cons])) | refine FEnt.drop ?_)); done), ⟨by omega, ht.symm⟩, by omega⟩
  · conv => whnf
    repeat' ((with_reducible refine Br.df ?_ ?_); (focus (first | assumption | omega)); conv => whnf)
    have e : k = S.length := by omega
    subst e
    rw [List.take_length] at h2
    subst h2
    exact Is.ent (by (refine FEnt.ent ?_; (repeat (first | exact FEnt.rfl | refine FEnt.drop ?_)); done)) Is.rfl
end Go.Proofs
