/- The processor's laws: runs. -/
import Derived.Test.YtmdffjaljejccaaCpuL
import Derived.Test.YtmdffjaljejccaaEngMorh
set_option linter.all false
namespace Go.Proofs
open Go.Eng
set_option linter.unusedVariables false
set_option maxRecDepth 100000
set_option maxHeartbeats 4000000
theorem take_more {R A : List Otp} {k : Nat} {o : Otp} (h : R.take k ++ o :: A = R) (hk : k ≤ R.length) : k < R.length ∧ R.getD k (0, 0, 0, 0) = o ∧ R.take (k + 1) = R.take k ++ [o] := by
  have hl : (R.take k).length = k := by rw [List.length_take]; omega
  have h1 : R.length = k + (A.length + 1) := by rw [← h, List.length_append, hl]; rfl
  have h2 : R.getD k (0, 0, 0, 0) = o := by
    have := getD_mid (P := R.take k) (Q := A) (y := o) (d := (0, 0, 0, 0)) hl.symm
    rwa [h] at this
  refine ⟨by omega, h2, ?_⟩
  rw [take_snoc' (0, 0, 0, 0) (by omega), h2]
/-- what a run has done till now -/
structure Runs (R : List Otp) (T : Mch) (N k : Nat) (q : Mch) : Prop where
  few : k ≤ R.length
  rest : R.take k ++ runL (N - k) q = R
  last : runS (N - k) q = T
theorem Runs.stop {R : List Otp} {T : Mch} {N k : Nat} {q : Mch} (h : Runs R T N k q) (hs : N ≤ k ∨ q.m ≠ 0) : k = R.length ∧ q = T := by
  have hz : runL (N - k) q = [] ∧ runS (N - k) q = q := by
    by_cases h0 : q.m = 0
    · have : N - k = 0 := by omega
      rw [this]
      exact ⟨rfl, rfl⟩
    · exact run_still h0
  have h1 := h.rest
  rw [hz.1, List.append_nil] at h1
  have h2 := congrArg List.length h1
  rw [List.length_take] at h2
  exact ⟨by have := h.few; omega, hz.2.symm.trans h.last⟩
theorem Runs.call {R : List Otp} {T : Mch} {N k : Nat} {q : Mch} (h : Runs R T N k q) (hk : k < N) (hm : q.m = 0) (h2 : (stepF q).2.1 = 2) : k + 1 = R.length ∧ R.getD k (0, 0, 0, 0) = (stepF q).2 ∧ (stepF q).1 = T := by
  obtain ⟨z1, z2⟩ := run_call hm h2 (by omega : 0 < N - k)
  have h1 := h.rest
  rw [z1] at h1
  obtain ⟨g1, g2, g3⟩ := take_more h1 h.few
  have h3 := congrArg List.length h1
  rw [List.length_append, List.length_take] at h3
  simp at h3
  exact ⟨by omega, g2, z2.symm.trans h.last⟩
theorem Runs.on {R : List Otp} {T : Mch} {N k : Nat} {q : Mch} (h : Runs R T N k q) (hk : k < N) (hm : q.m = 0) (h2 : ¬ (stepF q).2.1 = 2) : k < R.length ∧ R.getD k (0, 0, 0, 0) = (stepF q).2 ∧ Runs R T N (k + 1) (stepF q).1 := by
  obtain ⟨z1, z2⟩ := run_on hm h2 (by omega : 0 < N - k)
  have h1 := h.rest
  rw [z1] at h1
  obtain ⟨g1, g2, g3⟩ := take_more h1 h.few
  refine ⟨g1, g2, by omega, ?_, ?_⟩
  · rw [g3, List.append_assoc, ← Nat.sub_sub]; exact h1
  · rw [← Nat.sub_sub, ← z2]; exact h.last
theorem Try.giveTwo (pc m x n : Int) (r : Nat → Int) (hn : I64 n) : ((0 ≤ x ∧ x < 8) ∧ ∀ L, Con Try.prog 15 [stV pc r m, i64W x, i64W n] L (Is (stV pc (upd r x.toNat (n % 65536)) m) L)) ∨ (¬ (0 ≤ x ∧ x < 8) ∧ ∀ L, Con Try.prog 15 [stV pc r m, i64W x, i64W n] L (Is (stV pc r m) L)) := by
  by_cases h : 0 ≤ x ∧ x < 8
  · exact .inl ⟨h, fun L => Try.cpuGive pc m x n r L hn h⟩
  · exact .inr ⟨h, fun L => Try.cpuGiveNo pc m x n r L h⟩
theorem Try.wakeTwo (pc m : Int) (r : Nat → Int) : (m = 1 ∧ ∀ L, Con Try.prog 16 [stV pc r m] L (Is (stV pc r 0) L)) ∨ (¬ m = 1 ∧ ∀ L, Con Try.prog 16 [stV pc r m] L (Is (stV pc r m) L)) := by
  by_cases h : m = 1
  · exact .inl ⟨h, fun L => by have := Try.cpuWake pc m r L; rwa [if_pos h] at this⟩
  · exact .inr ⟨h, fun L => by have := Try.cpuWake pc m r L; rwa [if_neg h] at this⟩
theorem Try.wake0 (pc m : Int) (r : Nat → Int) (L : List HP) (h : m = 1) : Con Try.prog 16 [stV pc r m] L (Is (stV pc r 0) L) := by have := Try.cpuWake pc m r L; rwa [if_pos h] at this
theorem Try.wake1 (pc m : Int) (r : Nat → Int) (L : List HP) (h : m ≠ 1) : Con Try.prog 16 [stV pc r m] L (Is (stV pc r m) L) := by have := Try.cpuWake pc m r L; rwa [if_neg h] at this
theorem Try.cpuRunsLaw (s : ByteArray) (size pc m n x : Int) (r : Nat → Int) (L : List HP) (hz : I64 size) (hpc : I64 pc) (hr : ∀ i, I64 (r i)) (hn : I64 n) (hx : I64 x) :
    Con Try.prog 5 [.string s, i64W size, stV pc r m, i64W n, i64W x] L (Is (.bool true) L) := by
  by_cases hg : s.size ≤ 400 ∧ 0 ≤ size ∧ size ≤ 400 ∧ n ≤ 60
  · obtain ⟨N, rfl⟩ := Int.eq_ofNat_of_zero_le hg.2.1
    obtain ⟨pre, hpre, hpl⟩ := zeros_ex 300
    obtain ⟨post, hpost, hql⟩ := zeros_ex (1000 - 300 - N)
    have hx0 := seg_len2 hpl (startV_len s N) hql
    have hM : Mok ⟨startV s N, pc, r, m⟩ := startM_ok2 (by omega) hpc hr
    have hrun := fun b L => Try.cpuRun b pre post 300 N n ⟨startV s N, pc, r, m⟩ L (by omega) (by rw [startV_len]) (by dsimp only; omega) hM (by omega)
    have hR0 : Runs (runL n.toNat ⟨startV s N, pc, r, m⟩) (runS n.toNat ⟨startV s N, pc, r, m⟩) n.toNat 0 ⟨startV s N, pc, r, m⟩ := ⟨by omega, rfl, rfl⟩
    have hRl := runL_len n.toNat ⟨startV s N, pc, r, m⟩
    have hview := fun L => Try.lawViewP s 300 N 300 N pre post L hpre hpost rfl (by omega) rfl (by omega) (by omega)
    clear hpre hpost
    have hT := runS_ok n.toNat hM
    have hTl : (runS n.toNat ⟨startV s N, pc, r, m⟩).V.length = N := (runS_len _ _).trans (startV_len s N)
    have hsl := startV_len s N
    have hshr : n - n / 65536 * 65536 = n % 65536 := by omega
    generalize runL n.toNat ⟨startV s N, pc, r, m⟩ = R at *
    generalize runS n.toNat ⟨startV s N, pc, r, m⟩ = T at *
    have hxT := seg_len2 hpl hTl hql
    have hilT := ints_len T.V
    generalize startV s N = V0 at *
    refine con_of Try.tysOk Try.func5 rfl rfl ?_
    conv => whnf
    refine Nc.go' (fun b7 => ?_)
    conv => whnf
    repeat' (first
      | (first | ((with_reducible refine Br.ff ?_); conv => whnf) | ((with_reducible refine Br.df ?_ ?_); (focus (first | assumption | omega)); conv => whnf))
      | ((with_reducible refine Nd.mk ?_ ?_); (focus (first | omega | rfl | assumption | (simp; done))); conv => whnf)
      | ((with_reducible refine Nc.go' (fun _ => ?_)); conv => whnf)
      | (first | (refine LdN.at 1 rfl (by first | exact Nat.le_of_ble_eq_true rfl | (simp; done)) ?_; conv => whnf) | (refine LdN.at 3 rfl (by first | exact Nat.le_of_ble_eq_true rfl | (simp; done)) ?_; conv => whnf) | (refine LdN.at 4 rfl (by first | exact Nat.le_of_ble_eq_true rfl | (simp; done)) ?_; conv => whnf))
      | (refine St.at 0 rfl (by first | exact Nat.le_of_ble_eq_true rfl | (simp; done)) rfl ?_; conv => whnf)
      | (first | ((with_reducible refine (?_ : Cl _ 8 _ _ _ _)); (refine Cl.exs (hview _) ?_; rintro ⟨b1, a, c⟩ ⟨hc, had⟩; dsimp only at hc had); conv => whnf) | ((with_reducible refine Cl.is (Try.lawRef _ _ _ _) ?_); conv => whnf) | ((refine Cl.exsAt2 2 rfl (fun M => hrun _ M) ?_); (conv => whnf); rintro ⟨a1, c1⟩ ⟨hc1, had1⟩; conv => whnf)))
    rename_i b12 b14 b15
    conv => whnf
    refine Lp.cut3 Try.tysOk 0 [17, 13] (fun (k : Nat) (q : Mch) (x : HP × Option Addr × Nat) => [.int .i64 k, .slice x.2.1 (ints q.V).length x.2.2]) (fun k q x => ptc b15 24 (stC T.pc T.r T.m) :: ptc b14 32 (stC q.pc q.r q.m) :: ptc b12 28 [pV b1, i64W 300, i64W N] :: Try.memH b1 (pre ++ T.V ++ post) :: own outE 37 a1 c1 R :: x.1 :: L) (fun k q x => Mok q ∧ q.V.length = N ∧ Rd intE [x.1] x.2.1 (ints q.V) ∧ (ints q.V).length ≤ x.2.2 ∧ Runs R T n.toNat k q) (fun k q x => k = R.length ∧ q = T ∧ Rd intE [x.1] x.2.1 (ints q.V)) (fun k q x => 60 - k) (0) ((⟨V0, pc, r, m⟩ : Mch)) ((own intE 3 a c (ints V0), a, c)) (by kernel_rfl) (by (refine FEnt.ent ?_; (repeat (first | exact FEnt.rfl | (refine FEnt.at 0 rfl ?_; (try simp only [List.eraseIdx_cons_zero, List.eraseIdx_cons_succ, List.eraseIdx_zero, List.tail_cons])) | (refine FEnt.at 1 rfl ?_; (try simp only [List.eraseIdx_cons_zero, List.eraseIdx_cons_succ, List.eraseIdx_zero, List.tail_cons])) | (refine FEnt.at 2 rfl ?_; (try simp only [List.eraseIdx_cons_zero, List.eraseIdx_cons_succ, List.eraseIdx_zero, List.tail_cons])) | refine FEnt.drop ?_)); done)) (⟨hM, hsl, Rd.own 0 rfl had, hc, hR0⟩) ?_ ?_
    · rintro k q ⟨A, a2, c2⟩ ⟨hq, h3, h4, h5, h6⟩
      conv => whnf
      repeat (intro _; conv => whnf)
      dsimp only at h4 h5
      have hil := ints_len q.V
      by_cases hk : (k : Int) < n ∧ q.m = 0
      · have hlen := stepF_len q
        have hil2 := ints_len (stepF q).1.V
        by_cases h2 : (stepF q).2.1 = 2
        · obtain ⟨g1, g2, g3⟩ := h6.call (by omega) hk.2 h2
          have g2' : R.getD k outE.d = (stepF q).2 := g2
          conv => whnf
          repeat' (first
            | (first | ((with_reducible refine Br.ndf (And.intro ?_ ?_) ?_); (focus ((repeat' (with_reducible apply And.intro)) <;> (first | (with_reducible rfl) | (exact trivial)))); (focus ((repeat' (with_reducible apply And.intro)) <;> (first | (with_reducible rfl) | (exact trivial)))); conv => whnf) | ((with_reducible refine Br.tt ?_); conv => whnf) | ((with_reducible refine Br.ff ?_); conv => whnf) | ((with_reducible refine Br.dt ?_ ?_); (focus (first | assumption | omega)); conv => whnf) | ((with_reducible refine Br.df ?_ ?_); (focus (first | assumption | omega)); conv => whnf))
            | ((with_reducible refine Ar.i64 ?_ ?_); (focus omega); conv => whnf)
            | ((with_reducible refine Nd.mk ?_ ?_); (focus (first | omega | rfl | assumption | (simp; done))); conv => whnf)
            | ((with_reducible refine Nc.go' (fun _ => ?_)); conv => whnf)
            | ((with_reducible refine Ix.ad ?_ ?_ ?_); (focus (assumption)); (focus (omega)); conv => whnf)
            | (refine Ld.at 1 rfl rfl ?_; conv => whnf)
            | (first | ((with_reducible apply LdN.rdk); (focus ((repeat ((refine Rd.own 6 rfl ?_); (assumption))); done)); (focus rfl); (focus rfl); (focus (omega)); conv => whnf) | (refine LdN.at 2 rfl (by first | exact Nat.le_of_ble_eq_true rfl | (simp; done)) ?_; conv => whnf))
            | (first | (refine St.at 1 rfl (by first | exact Nat.le_of_ble_eq_true rfl | (simp; done)) rfl ?_; conv => whnf) | (refine St.at 3 rfl (by first | exact Nat.le_of_ble_eq_true rfl | (simp; done)) rfl ?_; conv => whnf))
            | ((with_reducible refine Dr.by (id := 10) Try.tysOk rfl [(0, 0), (1, 0), (2, 0), (3, 0), (4, 0), (5, 0), (6, 0), (7, 0), (9, 0), (11, 0), (13, 0), (15, 0), (8, 1), (10, 1), (12, 1), (14, 1), (16, 1), (17, 0), (18, 0), (19, 0)] ?_ ?_); (focus kernel_rfl); conv => whnf)
            | ((refine Cl.exsAt 6 rfl (fun M => Try.refStep A a2 c2 q M (by omega) h5 hq.pcI hq.regs h4) ?_); (conv => whnf); rintro ⟨A3, a3, c3⟩ hb; conv => whnf)
            | ((rw [g2']); conv => whnf))
          all_goals exact ⟨k + 1, (stepF q).1, (A3, a3, c3), by kernel_rfl, by (refine FEnt.ent ?_; (repeat (first | exact FEnt.rfl | (refine FEnt.at 0 rfl ?_; (try simp only [List.eraseIdx_cons_zero, List.eraseIdx_cons_succ, List.eraseIdx_zero, List.tail_cons])) | (refine FEnt.at 2 rfl ?_; (try simp only [List.eraseIdx_cons_zero, List.eraseIdx_cons_succ, List.eraseIdx_zero, List.tail_cons])) | refine FEnt.drop ?_)); done), ⟨g1, g3, hb.read⟩⟩
        · obtain ⟨g1, g2, g3⟩ := h6.on (by omega) hk.2 h2
          have g2' : R.getD k outE.d = (stepF q).2 := g2
          conv => whnf
          repeat' (first
            | (first | ((with_reducible refine Br.ndf (And.intro ?_ ?_) ?_); (focus ((repeat' (with_reducible apply And.intro)) <;> (first | (with_reducible rfl) | (exact trivial)))); (focus ((repeat' (with_reducible apply And.intro)) <;> (first | (with_reducible rfl) | (exact trivial)))); conv => whnf) | ((with_reducible refine Br.tt ?_); conv => whnf) | ((with_reducible refine Br.ff ?_); conv => whnf) | ((with_reducible refine Br.dt ?_ ?_); (focus (first | assumption | omega)); conv => whnf) | ((with_reducible refine Br.df ?_ ?_); (focus (first | assumption | omega)); conv => whnf))
            | ((with_reducible refine Ar.i64 ?_ ?_); (focus omega); conv => whnf)
            | ((with_reducible refine Nd.mk ?_ ?_); (focus (first | omega | rfl | assumption | (simp; done))); conv => whnf)
            | ((with_reducible refine Nc.go' (fun _ => ?_)); conv => whnf)
            | ((with_reducible refine Ix.ad ?_ ?_ ?_); (focus (assumption)); (focus (omega)); conv => whnf)
            | (refine Ld.at 1 rfl rfl ?_; conv => whnf)
            | (first | ((with_reducible apply LdN.rdk); (focus ((repeat ((refine Rd.own 6 rfl ?_); (assumption))); done)); (focus rfl); (focus rfl); (focus (omega)); conv => whnf) | (refine LdN.at 2 rfl (by first | exact Nat.le_of_ble_eq_true rfl | (simp; done)) ?_; conv => whnf))
            | (first | (refine St.at 1 rfl (by first | exact Nat.le_of_ble_eq_true rfl | (simp; done)) rfl ?_; conv => whnf) | (refine St.at 3 rfl (by first | exact Nat.le_of_ble_eq_true rfl | (simp; done)) rfl ?_; conv => whnf))
            | ((with_reducible refine Dr.by (id := 10) Try.tysOk rfl [(0, 0), (1, 0), (2, 0), (3, 0), (4, 0), (5, 0), (6, 0), (7, 0), (9, 0), (11, 0), (13, 0), (15, 0), (8, 1), (10, 1), (12, 1), (14, 1), (16, 1), (17, 0), (18, 0), (19, 0)] ?_ ?_); (focus kernel_rfl); conv => whnf)
            | ((refine Cl.exsAt 6 rfl (fun M => Try.refStep A a2 c2 q M (by omega) h5 hq.pcI hq.regs h4) ?_); (conv => whnf); rintro ⟨A3, a3, c3⟩ hb; conv => whnf)
            | ((rw [g2']); conv => whnf))
          all_goals exact ⟨k + 1, (stepF q).1, (A3, a3, c3), by kernel_rfl, by (refine FEnt.ent ?_; (repeat (first | exact FEnt.rfl | (refine FEnt.at 0 rfl ?_; (try simp only [List.eraseIdx_cons_zero, List.eraseIdx_cons_succ, List.eraseIdx_zero, List.tail_cons])) | (refine FEnt.at 2 rfl ?_; (try simp only [List.eraseIdx_cons_zero, List.eraseIdx_cons_succ, List.eraseIdx_zero, List.tail_cons])) | refine FEnt.drop ?_)); done), ⟨stepF_ok' hq, hlen.trans h3, hb.read, hb.cap, g3⟩, by omega⟩
      · obtain ⟨g1, g2⟩ := h6.stop (by omega)
        conv => whnf
        repeat' (first
          | (first | ((with_reducible refine Br.tt ?_); conv => whnf) | ((with_reducible refine Br.ff ?_); conv => whnf) | ((with_reducible refine Br.df ?_ ?_); (focus (first | assumption | omega)); conv => whnf))
          | (refine Ld.at 1 rfl rfl ?_; conv => whnf)
          | ((with_reducible refine Br.ds (fun _ => ?_) (fun _ => ?_) ) <;> (conv => whnf)))
        all_goals exact ⟨k, q, (A, a2, c2), by kernel_rfl, by (exact Ent.rfl), ⟨g1, g2, h4⟩⟩
    · rintro k q ⟨A, a2, c2⟩ ⟨g1, g2, g3⟩
      conv => whnf
      repeat (intro _; conv => whnf)
      dsimp only at g3
      subst g1
      subst g2
      rcases Try.giveTwo q.pc q.m x n q.r hn with ⟨v1, v2⟩ | ⟨v1, v2⟩
      all_goals
        rcases Try.wakeTwo q.pc q.m q.r with ⟨u1, u2⟩ | ⟨u1, u2⟩
        all_goals
          conv => whnf
          repeat' (first
            | (first | ((with_reducible refine Br.dt (And.intro ?_ ?_) ?_); (focus ((repeat' (with_reducible apply And.intro)) <;> (first | (with_reducible rfl) | (exact trivial)))); (focus ((repeat' (with_reducible apply And.intro)) <;> (first | (with_reducible rfl) | (exact trivial)))); conv => whnf) | ((with_reducible refine Br.tt ?_); conv => whnf) | ((with_reducible refine Br.ff ?_); conv => whnf) | ((with_reducible refine Br.nt ?_); conv => whnf) | ((with_reducible refine Br.dt ?_ ?_); (focus (first | assumption | omega)); conv => whnf) | ((with_reducible refine Br.df ?_ ?_); (focus (first | assumption | omega)); conv => whnf) | ((with_reducible refine Br.ndf ?_ ?_); (focus (first | assumption | omega)); conv => whnf) | ((with_reducible refine Br.no ?_ ?_); (focus (first | (simp; done) | (simp; omega))); conv => whnf))
            | ((with_reducible refine Bt.shr16 ?_); conv => whnf)
            | (first | ((with_reducible refine Ar.shl16 ?_ ?_); (focus omega); conv => whnf) | ((with_reducible refine Ar.i64 ?_ ?_); (focus omega); conv => whnf))
            | ((with_reducible refine Nd.mk ?_ ?_); (focus (first | omega | rfl | assumption | (simp; done))); conv => whnf)
            | ((with_reducible refine Nc.go' (fun _ => ?_)); conv => whnf)
            | ((with_reducible refine Ix.arr ?_ ?_); (focus (omega)); conv => whnf)
            | (first | (refine Eqs.is rfl (by kernel_rfl) ?_; conv => whnf) | (refine Eqs.mk ?_; conv => whnf))
            | (refine Ld.at 4 rfl rfl ?_; conv => whnf)
            | (first | (refine LdN.at 0 rfl (by first | exact Nat.le_of_ble_eq_true rfl | (simp; done)) ?_; conv => whnf) | (refine LdN.at 1 rfl (by first | exact Nat.le_of_ble_eq_true rfl | (simp; done)) ?_; conv => whnf) | (refine LdN.at 2 rfl (by first | exact Nat.le_of_ble_eq_true rfl | (simp; done)) ?_; conv => whnf) | (refine LdN.at 3 rfl (by first | exact Nat.le_of_ble_eq_true rfl | (simp; done)) ?_; conv => whnf))
            | (first | (refine St.reg 0 rfl ?_ ?_; (focus (omega)); conv => whnf) | (refine St.at 0 rfl (by first | exact Nat.le_of_ble_eq_true rfl | (simp; done)) rfl ?_; conv => whnf) | (refine St.at 1 rfl (by first | exact Nat.le_of_ble_eq_true rfl | (simp; done)) rfl ?_; conv => whnf))
            | ((with_reducible refine Dr.by (id := 14) Try.tysOk rfl [(0, 0), (1, 0), (2, 0), (3, 0), (4, 0), (5, 1), (6, 1), (7, 1), (8, 0), (9, 0), (10, 0), (13, 0), (14, 0), (15, 0), (11, 1), (12, 1), (16, 1), (17, 0), (18, 0)] ?_ ?_); (focus kernel_rfl); conv => whnf)
            | ((with_reducible refine Dr.by (id := 16) Try.tysOk rfl [(1, 0), (2, 0), (0, 1), (3, 1), (4, 1), (5, 1), (6, 2), (7, 2), (8, 3), (9, 3)] ?_ ?_); (focus kernel_rfl); conv => whnf)
            | (first | ((with_reducible refine CD.is (fun M => Try.lawRef _ _ _ _) ?_); conv => whnf) | ((with_reducible refine CD.is (fun M => v2 _) ?_); conv => whnf) | ((with_reducible refine CD.is (fun M => u2 _) ?_); conv => whnf) | ((with_reducible refine CD.isAt 3 rfl (fun M => Try.cpuText _ pre _ post 300 N _ (by omega) (by rw [hTl]) (by omega)) ?_); conv => whnf) | ((with_reducible refine (?_ : CD _ 13 _ _ _)); (refine CD.is (fun M => Try.refTextAll _ _ 0 q.V _ (by omega) rfl (by ((repeat (first | exact Rd.hd (by assumption) | apply Rd.cons | apply Rd.app)); done))) ?_); conv => whnf))
            | ((with_reducible refine Cl.is (Try.cpuLive _) ?_); conv => whnf)
            | ((rw [hshr]); conv => whnf)
            | ((with_reducible refine Br.ds (fun _ => ?_) (fun _ => ?_) ) <;> (conv => whnf)))
          all_goals (refine Is.ent ?_ ?_; (focus (refine FEnt.ent ?_; (repeat (first | exact FEnt.rfl | refine FEnt.drop ?_)); done)); (exact Is.rfl))
  · refine con_of Try.tysOk Try.func5 rfl rfl ?_
    conv => whnf
    repeat' (first
      | (first | ((with_reducible refine Br.tt ?_); conv => whnf) | ((with_reducible refine Br.ff ?_); conv => whnf) | ((with_reducible refine Br.dt ?_ ?_); (focus (first | assumption | omega)); conv => whnf))
      | ((with_reducible refine Nc.go' (fun _ => ?_)); conv => whnf)
      | ((with_reducible refine Cl.is (Try.cpuLive _) ?_); conv => whnf)
      | ((with_reducible refine Br.ds (fun _ => ?_) (fun _ => ?_) ) <;> (conv => whnf)))
    all_goals (refine Is.ent ?_ ?_; (focus (refine FEnt.ent ?_; (repeat (first | exact FEnt.rfl | refine FEnt.drop ?_)); done)); (exact Is.rfl))
end Go.Proofs
