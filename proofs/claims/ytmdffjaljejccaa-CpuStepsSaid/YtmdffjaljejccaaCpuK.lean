/- The processor's laws: steps, moves. -/
import Derived.Test.YtmdffjaljejccaaCpuJ
set_option linter.all false
namespace Go.Proofs
open Go.Eng
set_option linter.unusedVariables false
set_option maxRecDepth 100000
set_option maxHeartbeats 8000000
theorem seg_len (B N R : Nat) {V : List UInt8} (h : V.length = N) (h0 : B + N + R ≤ 16384) : (zeros B ++ V ++ zeros R).length ≤ 16384 := by
  simp only [List.length_append, List.length_replicate]; omega
theorem startM_ok {s : ByteArray} {N : Nat} {pc m : Int} {r : Nat → Int} (hN : N ≤ 400) (hpc : I64 pc) (hr : ∀ i, I64 (r i)) : Mok ⟨startV s N, pc, r, m⟩ := ⟨hr, hpc, by rw [startV_len]; exact hN⟩
theorem Try.cpuStepsLaw (s : ByteArray) (size pc m n : Int) (r : Nat → Int) (L : List HP) (hz : I64 size) (hpc : I64 pc) (hr : ∀ i, I64 (r i)) (hn : 0 ≤ n ∧ n ≤ 255) :
    Con Try.prog 3 [.string s, i64W size, stV pc r m, u8W n] L (Is (.bool true) L) := by
  by_cases hg : s.size ≤ 400 ∧ 0 ≤ size ∧ size ≤ 400
  · obtain ⟨N, rfl⟩ := Int.eq_ofNat_of_zero_le hg.2.1
    have ht : n.tmod 60 = n % 60 := Int.tmod_eq_emod_of_nonneg hn.1
    refine con_of Try.tysOk Try.func3 rfl rfl ?_
    conv => whnf
    refine Nc.go' (fun b6 => ?_)
    conv => whnf
    repeat' (first
      | (first | ((with_reducible refine Br.ff ?_); conv => whnf) | ((with_reducible refine Br.df ?_ ?_); (focus (first | assumption | omega)); conv => whnf))
      | ((with_reducible refine Nd.mk ?_ ?_); (focus (first | omega | rfl | assumption | (simp; done))); conv => whnf)
      | ((with_reducible refine Nc.go' (fun _ => ?_)); conv => whnf)
      | (refine LdN.at 3 rfl (by first | exact Nat.le_of_ble_eq_true rfl | (simp; done)) ?_; conv => whnf)
      | (refine St.at 0 rfl (by first | exact Nat.le_of_ble_eq_true rfl | (simp; done)) rfl ?_; conv => whnf)
      | ((with_reducible refine Cl.is (Try.lawRef _ _ _ _) ?_); conv => whnf)
      | ((refine Cl.exs (Try.lawView s 300 N 300 N _ rfl (by omega) rfl (by omega) (by omega)) ?_; rintro ⟨b1, a, c⟩ ⟨hc, had⟩; dsimp only at hc had); conv => whnf))
    rename_i b10 b12
    conv => whnf
    refine Lp.by3 Try.tysOk [13, 11] (fun (k : Nat) (q : Mch) (x : HP × Option Addr × Nat) => [.int .i64 k, .slice x.2.1 (ints q.V).length x.2.2]) (fun k q x => ptc b12 32 (stC q.pc q.r q.m) :: ptc b10 28 [pV b1, i64W 300, i64W N] :: ptc b6 24 (stC q.pc q.r q.m) :: Try.memH b1 (zeros 300 ++ q.V ++ zeros (1000 - 300 - N)) :: x.1 :: L) (fun k q x => k ≤ 60 ∧ Mok q ∧ q.V.length = N ∧ Rd intE [x.1] x.2.1 (ints q.V) ∧ (ints q.V).length ≤ x.2.2) (fun k q x => 60 - k) (0) ((⟨startV s N, pc, r, m⟩ : Mch)) ((own intE 3 a c (ints (startV s N)), a, c)) (by kernel_rfl) (by (refine FEnt.ent ?_; (repeat (first | exact FEnt.rfl | (refine FEnt.at 0 rfl ?_; (try simp only [List.eraseIdx_cons_zero, List.eraseIdx_cons_succ, List.eraseIdx_zero, List.tail_cons])) | (refine FEnt.at 2 rfl ?_; (try simp only [List.eraseIdx_cons_zero, List.eraseIdx_cons_succ, List.eraseIdx_zero, List.tail_cons])))); done)) (⟨by omega, startM_ok (by omega) hpc hr, startV_len s N, Rd.own 0 rfl had, hc⟩) ?_
    rintro k q ⟨A, a2, c2⟩ ⟨h1, hq, h3, h4, h5⟩
    conv => whnf
    repeat (intro _; conv => whnf)
    dsimp only at h4 h5
    have hx := seg_len 300 N (1000 - 300 - N) h3 (by omega)
    by_cases hk : (k : Int) < n.tmod 60
    · have hlen := stepF_len q
      have hil := ints_len (stepF q).1.V
      have hx2 := seg_len 300 N (1000 - 300 - N) (hlen.trans h3) (by omega)
      have hrf : (⟨(stepF q).1.V.toArray⟩ : ByteArray) = ⟨(stepF q).1.V.toArray⟩ := rfl
      conv => whnf
      repeat' (first
        | (first | ((with_reducible refine Br.tt ?_); conv => whnf) | ((with_reducible refine Br.ff ?_); conv => whnf) | ((with_reducible refine Br.dt ?_ ?_); (focus (first | assumption | omega)); conv => whnf) | ((with_reducible refine Br.ndf ?_ ?_); (focus (first | assumption | omega)); conv => whnf) | ((with_reducible refine Br.no ?_ ?_); (focus (first | (simp; done) | (simp; omega))); conv => whnf))
        | ((with_reducible refine Ar.i64 ?_ ?_); (focus omega); conv => whnf)
        | ((with_reducible refine Nd.mk ?_ ?_); (focus (first | omega | rfl | assumption | (simp; done))); conv => whnf)
        | ((with_reducible refine Nc.go' (fun _ => ?_)); conv => whnf)
        | (refine Ld.at 2 rfl rfl ?_; conv => whnf)
        | (first | (refine LdN.at 1 rfl (by first | exact Nat.le_of_ble_eq_true rfl | (simp; done)) ?_; conv => whnf) | (refine LdN.at 2 rfl (by first | exact Nat.le_of_ble_eq_true rfl | (simp; done)) ?_; conv => whnf) | (refine LdN.at 3 rfl (by first | exact Nat.le_of_ble_eq_true rfl | (simp; done)) ?_; conv => whnf) | (refine LdN.at 4 rfl (by first | exact Nat.le_of_ble_eq_true rfl | (simp; done)) ?_; conv => whnf) | (refine LdN.at 5 rfl (by first | exact Nat.le_of_ble_eq_true rfl | (simp; done)) ?_; conv => whnf))
        | (first | (refine St.at 0 rfl (by first | exact Nat.le_of_ble_eq_true rfl | (simp; done)) rfl ?_; conv => whnf) | (refine St.at 2 rfl (by first | exact Nat.le_of_ble_eq_true rfl | (simp; done)) rfl ?_; conv => whnf) | (refine St.at 3 rfl (by first | exact Nat.le_of_ble_eq_true rfl | (simp; done)) rfl ?_; conv => whnf) | (refine St.at 4 rfl (by first | exact Nat.le_of_ble_eq_true rfl | (simp; done)) rfl ?_; conv => whnf))
        | ((with_reducible refine Dr.by (id := 12) Try.tysOk rfl [(0, 1), (1, 1), (2, 1), (3, 0), (4, 0), (6, 0), (8, 0), (10, 0), (12, 0), (5, 1), (7, 1), (9, 1), (11, 1), (13, 1), (14, 0), (15, 0), (16, 0)] ?_ ?_); (focus kernel_rfl); conv => whnf)
        | ((with_reducible refine CD.is (fun M => Try.lawRef _ _ _ _) ?_); conv => whnf)
        | (first | ((refine Cl.isAt 5 rfl (Try.cpuStepS _ (zeros 300) (zeros (1000 - 300 - N)) 300 N q _ rfl (by rw [h3]) hx hq) ?_); conv => whnf) | ((refine Cl.exsAt 6 rfl (fun M => Try.refStep A a2 c2 q M (by omega) h5 hq.pcI hq.regs h4) ?_); (conv => whnf); rintro ⟨A3, a3, c3⟩ hb; conv => whnf) | ((refine Cl.isAt 6 rfl (Try.cpuText _ (zeros 300) _ (zeros (1000 - 300 - N)) 300 N _ rfl (by rw [hlen, h3]) hx2) ?_); conv => whnf))
        | ((refine Cl.is (Try.refTextAll _ _ 0 (stepF q).1.V _ (by omega) rfl (by have := hb.read; ((repeat (first | assumption | exact Rd.hd (by assumption))); done))) ?_); conv => whnf)
        | ((with_reducible refine Br.ds (fun _ => ?_) (fun _ => ?_) ) <;> (conv => whnf)))
      all_goals exact ⟨k + 1, (stepF q).1, (A3, a3, c3), by kernel_rfl, by (refine FEnt.ent ?_; (repeat (first | exact FEnt.rfl | (refine FEnt.at 0 rfl ?_; (try simp only [List.eraseIdx_cons_zero, List.eraseIdx_cons_succ, List.eraseIdx_zero, List.tail_cons])) | (refine FEnt.at 3 rfl ?_; (try simp only [List.eraseIdx_cons_zero, List.eraseIdx_cons_succ, List.eraseIdx_zero, List.tail_cons])) | refine FEnt.drop ?_)); done), ⟨by omega, stepF_ok' hq, hlen.trans h3, hb.read, hb.cap⟩, by omega⟩
    · have hil := ints_len q.V
      have hrf : (⟨q.V.toArray⟩ : ByteArray) = ⟨q.V.toArray⟩ := rfl
      conv => whnf
      repeat' (first
        | (first | ((with_reducible refine Br.tt ?_); conv => whnf) | ((with_reducible refine Br.df ?_ ?_); (focus (first | assumption | omega)); conv => whnf))
        | ((with_reducible refine Ar.i64 ?_ ?_); (focus omega); conv => whnf)
        | ((with_reducible refine Nd.mk ?_ ?_); (focus (first | omega | rfl | assumption | (simp; done))); conv => whnf)
        | (refine LdN.at 1 rfl (by first | exact Nat.le_of_ble_eq_true rfl | (simp; done)) ?_; conv => whnf)
        | (first | ((with_reducible refine Cl.is (Try.cpuLive _) ?_); conv => whnf) | ((refine Cl.isAt 3 rfl (Try.cpuText _ (zeros 300) _ (zeros (1000 - 300 - N)) 300 N _ rfl (by rw [h3]) hx) ?_); conv => whnf))
        | ((refine Cl.is (Try.refTextAll _ _ 0 q.V _ (by omega) rfl (by ((repeat (first | assumption | exact Rd.hd (by assumption) | apply Rd.cons)); done))) ?_); conv => whnf))
      all_goals (refine Is.ent ?_ ?_; (focus (refine FEnt.ent ?_; (repeat (first | exact FEnt.rfl | refine FEnt.drop ?_)); done)); (exact Is.ttr (by first | assumption | omega)))
  · refine con_of Try.tysOk Try.func3 rfl rfl ?_
    conv => whnf
    repeat' (first
      | (first | ((with_reducible refine Br.tt ?_); conv => whnf) | ((with_reducible refine Br.ff ?_); conv => whnf) | ((with_reducible refine Br.dt ?_ ?_); (focus (first | assumption | omega)); conv => whnf))
      | ((with_reducible refine Nc.go' (fun _ => ?_)); conv => whnf)
      | ((with_reducible refine Cl.is (Try.cpuLive _) ?_); conv => whnf)
      | ((with_reducible refine Br.ds (fun _ => ?_) (fun _ => ?_) ) <;> (conv => whnf)))
    all_goals (refine Is.ent ?_ ?_; (focus (refine FEnt.ent ?_; (repeat (first | exact FEnt.rfl | refine FEnt.drop ?_)); done)); (exact Is.rfl))
end Go.Proofs
