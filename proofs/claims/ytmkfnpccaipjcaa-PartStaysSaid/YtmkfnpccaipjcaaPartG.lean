/- The partition's laws: plays. -/
import Derived.Test.YtmkfnpccaipjcaaPartF
set_option linter.all false
namespace Go.Proofs
open Go.Eng
set_option linter.unusedVariables false
set_option maxRecDepth 100000
set_option maxHeartbeats 2000000
theorem m0_ok {V : List UInt8} (h : V.length ≤ 400) : Mok ⟨V, 0, fun _ => 0, 0⟩ :=
  ⟨fun i => ⟨by show (-9223372036854775808 : Int) ≤ 0; decide, by show (0 : Int) ≤ 9223372036854775807; decide⟩, ⟨by show (-9223372036854775808 : Int) ≤ 0; decide, by show (0 : Int) ≤ 9223372036854775807; decide⟩, h⟩
theorem lay0_len {N : Nat} {s : ByteArray} (h : s.size ≤ N) : (lay (zeros N) 0 s.data.toList).length = N := by
  rw [lay_len (by rw [size_list, List.length_replicate]; omega), List.length_replicate]
theorem Try.partPlaysLaw (s : ByteArray) (size : Int) (a0 : Option Addr) (c0 : Nat) (ds : List PDeed) (L : List HP) (hz : I64 size) (hd : ∀ d ∈ ds, fctI d.2) (hc0 : ds.length ≤ c0) (hm0 : c0 ≤ 9223372036854775807) (hr0 : Rd pdE L a0 ds) :
    Con Try.prog 4 [.string s, i64W size, .slice a0 ds.length c0] L (Is (.bool true) L) := by
  by_cases hg : s.size ≤ size ∧ size ≤ 300
  · obtain ⟨N, rfl⟩ := Int.eq_ofNat_of_zero_le (a := size) (by omega)
    obtain ⟨pre, hpre, hpl⟩ := zeros_ex 333
    obtain ⟨post, hpost, hql⟩ := zeros_ex (700 - 333 - N)
    have hVl := lay0_len (N := N) (s := s) (by omega)
    have hnw := fun L => Try.memNewP 700 333 N (700 - 333 - N) L (by omega) (by omega)
    have hzN : (zeros N).length = N := List.length_replicate
    rw [hpre, hpost] at hnw
    have hxz := seg_len2 hpl hzN hql
    have hpn := fun b L => Try.parNew b pre (zeros N) post 333 N 1 s L (by omega) (by omega) (by omega) ⟨by omega, by omega⟩ (by omega)
    have hrn := fun L => Try.refNew27 s N L (by omega) (by omega)
    clear hpre hpost
    generalize lay (zeros N) 0 s.data.toList = V0 at *
    generalize zeros N = Z at *
    have hM : Mok ⟨V0, 0, fun _ => 0, 0⟩ := m0_ok (by omega)
    refine con_of Try.tysOk Try.func4 rfl rfl ?_
    conv => whnf
    repeat' (first
      | (first | ((with_reducible refine Br.ff ?_); conv => whnf) | ((with_reducible refine Br.df ?_ ?_); (focus (first | assumption | omega)); conv => whnf) | ((with_reducible refine Br.ndf ?_ ?_); (focus (first | assumption | omega)); conv => whnf))
      | ((with_reducible refine Nd.mk ?_ ?_); (focus (first | omega | rfl | assumption | (simp; done))); conv => whnf)
      | ((with_reducible refine Nc.go' (fun _ => ?_)); conv => whnf)
      | (refine St.at 0 rfl (by first | exact Nat.le_of_ble_eq_true rfl | (simp; done)) rfl ?_; conv => whnf)
      | (first | ((with_reducible refine (?_ : Cl _ 12 _ _ _ _)); (refine Cl.exs (hnw _) (fun bm _ => ?_)); conv => whnf) | ((refine Cl.exsAt2 0 rfl (fun M => hpn _ M) ?_); (conv => whnf); rintro bp -; conv => whnf) | ((with_reducible refine (?_ : Cl _ 13 _ _ _ _)); (refine Cl.exs (hrn _) ?_; rintro ⟨a, c⟩ ⟨hc, had⟩; dsimp only at hc had); conv => whnf)))
    rename_i b9
    conv => whnf
    refine Lp.by3 Try.tysOk [10] (fun (k : Nat) (q : Mch) (x : HP × Option Addr × Nat) => [.int .i64 k]) (fun k q x => ptc b9 44 (.slice x.2.1 (ints q.V).length x.2.2 :: stC q.pc q.r q.m) :: ptc bp 79 (parC bm 333 N 1 q) :: Try.memH bm (pre ++ q.V ++ post) :: x.1 :: L) (fun k q x => k ≤ ds.length ∧ Mok q ∧ q.V.length = N ∧ Rd intE [x.1] x.2.1 (ints q.V) ∧ (ints q.V).length ≤ x.2.2) (fun k q x => 60 - k) (0) ((⟨V0, 0, fun _ => 0, 0⟩ : Mch)) ((own intE 3 a c (ints V0), a, c)) (by kernel_rfl) (by (refine FEnt.ent ?_; (repeat (first | exact FEnt.rfl | (refine FEnt.at 0 rfl ?_; (try simp only [List.eraseIdx_cons_zero, List.eraseIdx_cons_succ, List.eraseIdx_zero, List.tail_cons])) | (refine FEnt.at 1 rfl ?_; (try simp only [List.eraseIdx_cons_zero, List.eraseIdx_cons_succ, List.eraseIdx_zero, List.tail_cons])))); done)) (⟨by omega, hM, hVl, Rd.own 0 rfl had, hc⟩) ?_
    rintro k q ⟨A, a2, c2⟩ ⟨h1, hq, h3, h4, h5⟩
    conv => whnf
    repeat (intro _; conv => whnf)
    dsimp only at h4 h5
    have hx := seg_len2 hpl h3 hql
    by_cases hk : k < ds.length ∧ k < 60
    · have hdk := hd _ (getD_mem (d := pdE.d) hk.1)
      have hlen := do_len q (ds.getD k pdE.d)
      have hdo := fun L => Try.parDo bp bm pre post 333 N 1 A a2 c2 (ds.getD k pdE.d) q L (by omega) (by omega) (by omega) hq hdk h5 h4
      have hq2 := do_ok (d := ds.getD k pdE.d) hq
      generalize doF q (ds.getD k pdE.d) = q2 at *
      conv => whnf
      repeat' (first
        | (first | ((with_reducible refine Br.tt ?_); conv => whnf) | ((with_reducible refine Br.nt ?_); conv => whnf) | ((with_reducible refine Br.dt ?_ ?_); (focus (first | assumption | omega)); conv => whnf))
        | ((with_reducible refine Ar.i64 ?_ ?_); (focus omega); conv => whnf)
        | ((with_reducible refine Nd.mk ?_ ?_); (focus (first | omega | rfl | assumption | (simp; done))); conv => whnf)
        | ((with_reducible refine Ix.ad ?_ ?_ ?_); (focus (exact Rd.ad (by assumption))); (focus (omega)); conv => whnf)
        | (first | ((with_reducible apply LdN.rdk); (focus ((repeat (first | assumption | apply Rd.cons)); done)); (focus rfl); (focus rfl); (focus (omega)); conv => whnf) | (refine LdN.at 0 rfl (by first | exact Nat.le_of_ble_eq_true rfl | (simp; done)) ?_; conv => whnf))
        | (refine St.at 3 rfl (by first | exact Nat.le_of_ble_eq_true rfl | (simp; done)) rfl ?_; conv => whnf)
        | ((with_reducible refine Dr.by (id := 11) Try.tysOk rfl [(0, 0), (2, 0), (3, 0), (4, 0), (1, 1), (5, 1), (6, 3), (7, 0), (8, 0), (9, 0), (10, 3), (11, 0)] ?_ ?_); (focus kernel_rfl); conv => whnf)
        | (apply (Cl.pre [ptc bp _ _, Try.memH bm _, A]); (focus ((repeat (first | exact FEnt.rfl | (refine FEnt.at 1 rfl ?_; (try simp only [List.eraseIdx_cons_zero, List.eraseIdx_cons_succ, List.eraseIdx_zero, List.tail_cons])))); done)); refine Cl.exs (hdo _) ?_; rintro ⟨A3, a3, c3⟩ hb; conv => whnf))
      all_goals exact ⟨k + 1, q2, (A3, a3, c3), by kernel_rfl, by (refine FEnt.ent ?_; (repeat (first | exact FEnt.rfl | (refine FEnt.at 3 rfl ?_; (try simp only [List.eraseIdx_cons_zero, List.eraseIdx_cons_succ, List.eraseIdx_zero, List.tail_cons])))); done), ⟨by omega, hq2, hlen.trans h3, hb.read, hb.cap⟩, by omega⟩
    · have hsm := fun L h => Try.parSame bp bm pre post 333 N 1 a2 c2 q L (by omega) (by omega) (by omega) hq h
      conv => whnf
      repeat' (first
        | (first | ((with_reducible refine Br.tt ?_); conv => whnf) | ((with_reducible refine Br.ff ?_); conv => whnf) | ((with_reducible refine Br.df ?_ ?_); (focus (first | assumption | omega)); conv => whnf))
        | (refine LdN.at 0 rfl (by first | exact Nat.le_of_ble_eq_true rfl | (simp; done)) ?_; conv => whnf)
        | (first | ((with_reducible refine Cl.is (Try.partLive _) ?_); conv => whnf) | (apply (Cl.pre [ptc bp _ _, Try.memH bm _]); (focus (repeat (first | exact FEnt.rfl | (refine FEnt.at 1 rfl ?_; (try simp only [List.eraseIdx_cons_zero, List.eraseIdx_cons_succ, List.eraseIdx_zero, List.tail_cons])))); done); refine Cl.is (hsm _ (by ((repeat (first | exact Rd.hd (by assumption) | apply Rd.cons)); done))) ?_; conv => whnf))
        | ((with_reducible refine Br.ds (fun _ => ?_) (fun _ => ?_) ) <;> (conv => whnf)))
      all_goals (refine Is.ent ?_ ?_; (focus (refine FEnt.ent ?_; (repeat (first | exact FEnt.rfl | refine FEnt.drop ?_)); done)); (exact Is.rfl))
  · refine con_of Try.tysOk Try.func4 rfl rfl ?_
    conv => whnf
    repeat' (first
      | (first | ((with_reducible refine Br.tt ?_); conv => whnf) | ((with_reducible refine Br.ff ?_); conv => whnf) | ((with_reducible refine Br.dt ?_ ?_); (focus (first | assumption | omega)); conv => whnf))
      | ((with_reducible refine Cl.is (Try.partLive _) ?_); conv => whnf)
      | ((with_reducible refine Br.ds (fun _ => ?_) (fun _ => ?_) ) <;> (conv => whnf)))
    all_goals (refine Is.ent ?_ ?_; (focus (exact Ent.rfl)); (exact Is.rfl))
end Go.Proofs
