/- Spans: merging. -/
import Derived.Test.YtaacolkdlmfifaaGreatSpanC
set_option linter.all false
namespace Go.Proofs
open Go.Eng
set_option linter.unusedVariables false
set_option maxRecDepth 100000

theorem srt_ex : ∀ xs : List Sp, ∃ ys, Sorted xs ys
  | [] => ⟨[], .refl _, List.Pairwise.nil⟩
  | x :: xs => by
    obtain ⟨ys, hp, hs⟩ := srt_ex xs
    have key : ∀ ys : List Sp, Srt ys → ∃ zs, zs.Perm (x :: ys) ∧ Srt zs := by
      intro ys
      induction ys with
      | nil => exact fun _ => ⟨[x], .refl _, by simp⟩
      | cons y ys ih =>
        intro h
        have hc := List.pairwise_cons.1 h
        by_cases hxy : leS x y
        · refine ⟨x :: y :: ys, .refl _, List.pairwise_cons.2 ⟨fun z hz => ?_, h⟩⟩
          rcases List.mem_cons.1 hz with rfl | hz
          · exact hxy
          · exact leS_trans hxy (hc.1 z hz)
        · obtain ⟨zs, h1, h2⟩ := ih hc.2
          refine ⟨y :: zs, (h1.cons y).trans (List.Perm.swap x y ys), List.pairwise_cons.2 ⟨fun z hz => ?_, h2⟩⟩
          rcases List.mem_cons.1 (h1.mem_iff.1 hz) with rfl | hz
          · unfold leS ltS at *; omega
          · exact hc.1 z hz
    obtain ⟨zs, h1, h2⟩ := key ys hs
    exact ⟨zs, h1.trans (hp.cons x), h2⟩
theorem sortF_spec (xs : List Sp) : Sorted xs (sortF xs) := Classical.epsilon_spec (srt_ex xs)
theorem sortF_len (xs : List Sp) : (sortF xs).length = xs.length := (sortF_spec xs).1.length_eq
def lastS (out : List Sp) : Sp := out.getD (out.length - 1) spE.d
def mstep (out : List Sp) (s : Sp) : List Sp :=
  if isS s.1 s.2 then (if out ≠ [] ∧ s.1 ≤ (lastS out).2 then out.set (out.length - 1) ((lastS out).1, max (lastS out).2 s.2) else out ++ [s]) else out
def mergeS (xs : List Sp) : List Sp := xs.foldl mstep []
noncomputable def mergeF (xs : List Sp) : List Sp := mergeS (sortF xs)
theorem mstep_len (out : List Sp) (s : Sp) : (mstep out s).length ≤ out.length + 1 := by
  unfold mstep
  repeat' split
  all_goals simp
theorem take_snoc {xs : List Sp} {k : Nat} (h : k < xs.length) : xs.take (k + 1) = xs.take k ++ [xs.getD k spE.d] := by
  rw [List.take_add_one, get_some h]; rfl
theorem mergeS_take {xs : List Sp} {k : Nat} (h : k < xs.length) : mergeS (xs.take (k + 1)) = mstep (mergeS (xs.take k)) (xs.getD k spE.d) := by
  rw [take_snoc h]; simp [mergeS]

theorem Tryz.spanMerge (a : Option Addr) (c : Nat) (xs : List Sp) (L : List HP) (hl : xs.length ≤ 1099511627776) (hr : Rd spE L a xs) :
    Con Tryz.prog 35 [.slice a xs.length c] L (New spE 65 (mergeF xs) L) := by
  have hsl : (sortF xs).length ≤ 1099511627776 := by rw [sortF_len]; exact hl
  unfold mergeF
  refine con_of Tryz.tysOk Tryz.func35 rfl rfl ?_
  conv => whnf
  repeat' ((refine Cl.new (Tryz.spanSorted a c xs L hl hr) (fun a1 c1 hc1 had1 => ?_)); conv => whnf)
  generalize hS : sortF xs = S at *
  conv => whnf
  refine Lp.by4 Tryz.tysOk [10, 3] (fun (k : Nat) (out : List Sp) (a2 : Option Addr) (c2 : Nat) => [.int .i64 k, .slice a2 out.length c2]) (fun k out a2 c2 => own spE 65 a2 c2 out :: own spE 65 a1 c1 S :: L) (fun k out a2 c2 => k ≤ S.length ∧ out = mergeS (S.take k) ∧ out.length ≤ k ∧ Ad a2 out.length ∧ out.length ≤ c2) (fun k out a2 c2 => S.length - k) (0) ([]) (none) (0) (by kernel_rfl) (by (exact Ent.nil)) (⟨by omega, rfl, by simp, by (exact fun h => (h rfl).elim), by simp⟩) ?_
  rintro k out a2 c2 ⟨h1, h2, h3, h4, h5⟩
  conv => whnf
  repeat (intro _; conv => whnf)
  by_cases hk : k < S.length
  · have hs := mergeS_take hk
    rw [← h2] at hs
    conv => whnf
    repeat' (first
      | (first | ((with_reducible refine Br.tt ?_); conv => whnf) | ((with_reducible refine Br.ff ?_); conv => whnf) | ((with_reducible refine Br.dt ?_ ?_); (focus (first | assumption | omega)); conv => whnf))
      | ((with_reducible refine Ar.i64 ?_ ?_); (focus omega); conv => whnf)
      | ((with_reducible refine Nd.mk ?_ ?_); (focus (first | omega | rfl | assumption | (simp; done))); conv => whnf)
      | ((with_reducible refine Nc.go' (fun b => ?_)); conv => whnf)
      | ((with_reducible refine Ix.ad ?_ ?_ ?_); (focus (assumption)); (focus (omega)); conv => whnf)
      | (first | ((apply Ld.rd); (focus ((repeat ((refine Rd.own 1 rfl ?_); (assumption))); done)); (focus rfl); (focus (omega)); (focus rfl); conv => whnf) | (refine Ld.at 0 rfl rfl ?_; conv => whnf))
      | (first | ((with_reducible apply LdN.rdk); (focus ((repeat ((refine Rd.own 1 rfl ?_); (assumption))); done)); (focus rfl); (focus rfl); (focus (omega)); conv => whnf) | (refine LdN.at 0 rfl (by first | exact Nat.le_of_ble_eq_true rfl | (simp; done)) ?_; conv => whnf))
      | (refine St.at 0 rfl (by first | exact Nat.le_of_ble_eq_true rfl | (simp; done)) rfl ?_; conv => whnf)
      | ((with_reducible refine Dr.by (id := 8) Tryz.tysOk rfl [(0, 0), (1, 0), (2, 0), (3, 0), (5, 0), (6, 0), (7, 0), (8, 0), (4, 1), (9, 1), (10, 0), (11, 0), (12, 0)] ?_ ?_); (focus kernel_rfl); conv => whnf)
      | ((with_reducible refine Dr.by (id := 9) Tryz.tysOk rfl [(0, 0), (1, 0), (2, 0), (3, 0), (4, 0), (5, 0), (7, 0), (6, 1), (8, 1), (9, 0), (10, 0), (11, 0), (12, 3)] ?_ ?_); (focus kernel_rfl); conv => whnf)
      | ((with_reducible refine Cl.is (Tryz.spanIs _ _ _) ?_); conv => whnf)
      | ((refine Sm.app (xs := out) (M := own spE 65 a1 c1 S :: L) Tryz.tysOk (by (first | exact Ent.rfl | (refine FEnt.ent ?_; (repeat (first | exact FEnt.rfl | (refine FEnt.at 2 rfl ?_; (try simp only [List.eraseIdx_cons_zero, List.eraseIdx_cons_succ, List.eraseIdx_zero, List.tail_cons])) | refine FEnt.drop ?_)); done))) (Rd.ptc 0 rfl [(_, _)] rfl) rfl rfl rfl rfl rfl rfl (by simp; omega) (by show _ * 16 ≤ 140737488355328; simp only [List.length_cons, List.length_nil]; omega) (fun a3 c3 hc3 had3 => ?_)); conv => whnf)
      | (first | ((with_reducible refine Br.ds (fun _ => ?_) (fun _ => ?_) ) <;> (conv => whnf)) | ((with_reducible refine Br.nds (fun _ => ?_) (fun _ => ?_) ) <;> (conv => whnf))))
    · rename_i hx
      have e : mstep out (S.getD k spE.d) = out := if_neg hx
      rw [e] at hs
      refine ⟨k + 1, out, a2, c2, by kernel_rfl, by (refine FEnt.ent ?_; (repeat (first | exact FEnt.rfl | (refine FEnt.at 1 rfl ?_; (try simp only [List.eraseIdx_cons_zero, List.eraseIdx_cons_succ, List.eraseIdx_zero, List.tail_cons])) | refine FEnt.drop ?_)); done), ⟨by omega, hs.symm, by omega, h4, h5⟩, by omega⟩
    · rename_i hx hx1 hx2
      have hne : out ≠ [] := fun h => by rw [h] at hx1; simp at hx1
      have el : ((out.length : Int) - 1).toNat = out.length - 1 := by omega
      rw [el] at hx2
      have e : mstep out (S.getD k spE.d) = out.set (out.length - 1) ((lastS out).1, max (lastS out).2 (S.getD k spE.d).2) := (if_pos hx).trans (if_pos ⟨hne, hx2⟩)
      rw [e] at hs
      refine St.ownj 1 rfl rfl ?_ ((out.getD ((out.length : Int) - 1).toNat spE.d).1, max (out.getD ((out.length : Int) - 1).toNat spE.d).2 (S.getD k spE.d).2) rfl (by exact Nat.le_of_ble_eq_true rfl) rfl ?_
      · (omega)
      · rw [el]
        conv => whnf
        repeat' ((with_reducible refine Ar.i64 ?_ ?_); (focus omega); conv => whnf)
        refine ⟨k + 1, out.set (out.length - 1) ((lastS out).1, max (lastS out).2 (S.getD k spE.d).2), a2, c2, (by rw [List.length_set]; kernel_rfl), (by (refine FEnt.ent ?_; (repeat (first | exact FEnt.rfl | (refine FEnt.at 1 rfl ?_; (try simp only [List.eraseIdx_cons_zero, List.eraseIdx_cons_succ, List.eraseIdx_zero, List.tail_cons])) | refine FEnt.drop ?_)); done)), ⟨by omega, hs.symm, by simp; omega, by simpa using h4, by simpa using h5⟩, by omega⟩
    · rename_i hx hx1 hx2
      have el : ((out.length : Int) - 1).toNat = out.length - 1 := by omega
      rw [el] at hx2
      have e : mstep out (S.getD k spE.d) = out ++ [S.getD k spE.d] := (if_pos hx).trans (if_neg fun h => hx2 h.2)
      rw [e] at hs
      refine ⟨k + 1, _, a3, c3, by kernel_rfl, by (exact Ent.rfl), ⟨by omega, hs.symm, by simp; omega, had3, hc3⟩, by omega⟩
    · rename_i hx hx1
      have e : mstep out (S.getD k spE.d) = out ++ [S.getD k spE.d] := (if_pos hx).trans (if_neg fun h => by have := List.length_pos_iff.2 h.1; omega)
      rw [e] at hs
      refine ⟨k + 1, _, a3, c3, by kernel_rfl, by (exact Ent.rfl), ⟨by omega, hs.symm, by simp; omega, had3, hc3⟩, by omega⟩
  · conv => whnf
    repeat' ((with_reducible refine Br.df ?_ ?_); (focus (first | assumption | omega)); conv => whnf)
    have e : k = S.length := by omega
    subst e
    rw [List.take_length] at h2
    subst h2
    exact New.of rfl h5 h4 (by (refine FEnt.ent ?_; (repeat (first | exact FEnt.rfl | (refine FEnt.at 0 rfl ?_; (try simp only [List.eraseIdx_cons_zero, List.eraseIdx_cons_succ, List.eraseIdx_zero, List.tail_cons])) | refine FEnt.drop ?_)); done))
end Go.Proofs
