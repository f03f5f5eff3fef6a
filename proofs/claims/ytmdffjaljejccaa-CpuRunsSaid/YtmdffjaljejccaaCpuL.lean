/- The processor's laws: moves, and what stays. -/
import Derived.Test.YtmdffjaljejccaaCpuJ
import Derived.Test.YtmdffjaljejccaaMemDiff
set_option linter.all false
namespace Go.Proofs
open Go.Eng
set_option linter.unusedVariables false
set_option maxRecDepth 100000
set_option maxHeartbeats 2000000
theorem seg_len2 {pre V post : List UInt8} {B N R : Nat} (hB : pre.length = B) (hN : V.length = N) (hR : post.length = R) : (pre ++ V ++ post).length = B + N + R := by
  simp only [List.length_append]; omega
theorem Try.lawViewP (s : ByteArray) (base size : Int) (B N : Nat) (pre post : List UInt8) (L : List HP) (hpre : zeros B = pre) (hpost : zeros (1000 - B - N) = post) (hb : base = B) (hB : B ≤ 500) (hs : size = N) (hN : N ≤ 400) (hl : s.size ≤ 400) :
    Con Try.prog 8 [.string s, i64W base, i64W size] L
      (Exs (fun y : Nat × Option Addr × Nat => .tuple #[pV y.1, viewV y.1 base size, .slice y.2.1 (ints (startV s N)).length y.2.2])
        (fun y => Try.memH y.1 (pre ++ startV s N ++ post) :: own intE 3 y.2.1 y.2.2 (ints (startV s N)) :: L) (fun y => (ints (startV s N)).length ≤ y.2.2 ∧ Ad y.2.1 (ints (startV s N)).length)) := by
  subst hpre hpost
  exact Try.lawView s base size B N L hb hB hs hN hl
theorem zeros_ex (B : Nat) : ∃ pre, zeros B = pre ∧ pre.length = B := ⟨zeros B, rfl, List.length_replicate⟩
theorem startM_ok2 {s : ByteArray} {N : Nat} {pc m : Int} {r : Nat → Int} (hN : N ≤ 400) (hpc : I64 pc) (hr : ∀ i, I64 (r i)) : Mok ⟨startV s N, pc, r, m⟩ := ⟨hr, hpc, by rw [startV_len]; exact hN⟩
theorem Try.cpuMovesLaw (s : ByteArray) (size pc m n p : Int) (r : Nat → Int) (L : List HP) (hz : I64 size) (hpc : I64 pc) (hr : ∀ i, I64 (r i)) (hn : 0 ≤ n ∧ n ≤ 255) (hp : 0 ≤ p ∧ p ≤ 65535) :
    Con Try.prog 4 [.string s, i64W size, stV pc r m, u8W n, .int .u16 p] L (Is (.bool true) L) := by
  by_cases hg : s.size ≤ 400 ∧ 0 ≤ size ∧ size ≤ 400
  · obtain ⟨N, rfl⟩ := Int.eq_ofNat_of_zero_le hg.2.1
    have ht : n.tmod 60 = n % 60 := Int.tmod_eq_emod_of_nonneg hn.1
    have htp : p.tmod 500 = p % 500 := Int.tmod_eq_emod_of_nonneg hp.1
    obtain ⟨B, hB⟩ := Int.eq_ofNat_of_zero_le (a := p.tmod 500) (by omega)
    obtain ⟨pre, hpre, hpl⟩ := zeros_ex 300
    obtain ⟨post, hpost, hql⟩ := zeros_ex (1000 - 300 - N)
    obtain ⟨pre2, hpre2, hpl2⟩ := zeros_ex B
    obtain ⟨post2, hpost2, hql2⟩ := zeros_ex (1000 - B - N)
    refine con_of Try.tysOk Try.func4 rfl rfl ?_
    conv => whnf
    refine Nc.go' (fun b7 => ?_)
    conv => whnf
    repeat' (first
      | (first | ((with_reducible refine Br.ff ?_); conv => whnf) | ((with_reducible refine Br.df ?_ ?_); (focus (first | assumption | omega)); conv => whnf))
      | ((with_reducible refine Ar.i64 ?_ ?_); (focus omega); conv => whnf)
      | ((with_reducible refine Nd.mk ?_ ?_); (focus (first | omega | rfl | assumption | (simp; done))); conv => whnf)
      | ((with_reducible refine Nc.go' (fun _ => ?_)); conv => whnf)
      | (refine LdN.at 6 rfl (by first | exact Nat.le_of_ble_eq_true rfl | (simp; done)) ?_; conv => whnf)
      | (refine St.at 0 rfl (by first | exact Nat.le_of_ble_eq_true rfl | (simp; done)) rfl ?_; conv => whnf)
      | ((refine Cl.exs (Try.lawViewP s 300 N 300 N pre post _ hpre hpost rfl (by omega) rfl (by omega) (by omega)) ?_; rintro ⟨b1, a, c⟩ ⟨hc, had⟩; dsimp only at hc had); conv => whnf)
      | ((refine Cl.exs (Try.lawViewP s (p.tmod 500) N B N pre2 post2 _ hpre2 hpost2 hB (by omega) rfl (by omega) (by omega)) ?_; rintro ⟨b2, a', c'⟩ ⟨hc', had'⟩; dsimp only at hc' had'); conv => whnf))
    rename_i b12 b15 b17
    conv => whnf
    refine Lp.by2 Try.tysOk [18] (fun (k : Nat) (q : Mch) => [.int .i64 k]) (fun k q => ptc b17 24 (stC q.pc q.r q.m) :: ptc b15 28 [pV b2, i64W (p.tmod 500), i64W N] :: ptc b12 28 [pV b1, i64W 300, i64W N] :: ptc b7 24 (stC q.pc q.r q.m) :: Try.memH b1 (pre ++ q.V ++ post) :: Try.memH b2 (pre2 ++ q.V ++ post2) :: L) (fun k q => k ≤ 60 ∧ Mok q ∧ q.V.length = N) (fun k q => 60 - k) (0) ((⟨startV s N, pc, r, m⟩ : Mch)) (by kernel_rfl) (by (refine FEnt.ent ?_; (repeat (first | exact FEnt.rfl | (refine FEnt.at 0 rfl ?_; (try simp only [List.eraseIdx_cons_zero, List.eraseIdx_cons_succ, List.eraseIdx_zero, List.tail_cons])) | (refine FEnt.at 2 rfl ?_; (try simp only [List.eraseIdx_cons_zero, List.eraseIdx_cons_succ, List.eraseIdx_zero, List.tail_cons])) | (refine FEnt.at 4 rfl ?_; (try simp only [List.eraseIdx_cons_zero, List.eraseIdx_cons_succ, List.eraseIdx_zero, List.tail_cons])) | refine FEnt.drop ?_)); done)) (⟨by omega, startM_ok2 (by omega) hpc hr, startV_len s N⟩) ?_
    rintro k q ⟨h1, hq, h3⟩
    conv => whnf
    repeat (intro _; conv => whnf)
    have hx := seg_len2 hpl h3 hql
    have hx' := seg_len2 hpl2 h3 hql2
    have hB' : p.tmod 500 = pre2.length := by rw [hpl2]; exact hB
    by_cases hk : (k : Int) < n.tmod 60
    · have hlen := stepF_len q
      conv => whnf
      repeat' (first
        | (first | ((with_reducible refine Br.ff ?_); conv => whnf) | ((with_reducible refine Br.nt ?_); conv => whnf) | ((with_reducible refine Br.dt ?_ ?_); (focus (first | assumption | omega)); conv => whnf) | ((with_reducible refine Br.ndf ?_ ?_); (focus (first | assumption | omega)); conv => whnf))
        | ((with_reducible refine Ar.i64 ?_ ?_); (focus omega); conv => whnf)
        | ((with_reducible refine Nd.mk ?_ ?_); (focus (first | omega | rfl | assumption | (simp; done))); conv => whnf)
        | ((with_reducible refine Nc.go' (fun _ => ?_)); conv => whnf)
        | (refine Eqs.is rfl (by kernel_rfl) ?_; conv => whnf)
        | (first | (refine LdN.at 0 rfl (by first | exact Nat.le_of_ble_eq_true rfl | (simp; done)) ?_; conv => whnf) | (refine LdN.at 1 rfl (by first | exact Nat.le_of_ble_eq_true rfl | (simp; done)) ?_; conv => whnf) | (refine LdN.at 2 rfl (by first | exact Nat.le_of_ble_eq_true rfl | (simp; done)) ?_; conv => whnf) | (refine LdN.at 3 rfl (by first | exact Nat.le_of_ble_eq_true rfl | (simp; done)) ?_; conv => whnf) | (refine LdN.at 4 rfl (by first | exact Nat.le_of_ble_eq_true rfl | (simp; done)) ?_; conv => whnf) | (refine LdN.at 5 rfl (by first | exact Nat.le_of_ble_eq_true rfl | (simp; done)) ?_; conv => whnf))
        | (first | (refine St.at 0 rfl (by first | exact Nat.le_of_ble_eq_true rfl | (simp; done)) rfl ?_; conv => whnf) | (refine St.at 1 rfl (by first | exact Nat.le_of_ble_eq_true rfl | (simp; done)) rfl ?_; conv => whnf) | (refine St.at 2 rfl (by first | exact Nat.le_of_ble_eq_true rfl | (simp; done)) rfl ?_; conv => whnf) | (refine St.at 5 rfl (by first | exact Nat.le_of_ble_eq_true rfl | (simp; done)) rfl ?_; conv => whnf))
        | (first | ((refine Cl.isAt 6 rfl (Try.cpuStepS _ pre post 300 N q _ (by omega) (by rw [h3]) (by omega) hq) ?_); conv => whnf) | ((refine Cl.isAt 7 rfl (Try.cpuStepS _ pre2 post2 _ N q _ hB' (by rw [h3]) (by omega) hq) ?_); conv => whnf)))
      all_goals exact ⟨k + 1, (stepF q).1, by kernel_rfl, by (refine FEnt.ent ?_; (repeat (first | exact FEnt.rfl | (refine FEnt.at 2 rfl ?_; (try simp only [List.eraseIdx_cons_zero, List.eraseIdx_cons_succ, List.eraseIdx_zero, List.tail_cons])) | refine FEnt.drop ?_)); done), ⟨by omega, stepF_ok' hq, hlen.trans h3⟩, by omega⟩
    · have hrf : (⟨q.V.toArray⟩ : ByteArray) = ⟨q.V.toArray⟩ := rfl
      conv => whnf
      repeat' (first
        | (first | ((with_reducible refine Br.tt ?_); conv => whnf) | ((with_reducible refine Br.df ?_ ?_); (focus (first | assumption | omega)); conv => whnf))
        | ((with_reducible refine Ar.i64 ?_ ?_); (focus omega); conv => whnf)
        | ((with_reducible refine Nd.mk ?_ ?_); (focus (first | omega | rfl | assumption | (simp; done))); conv => whnf)
        | (first | (refine LdN.at 1 rfl (by first | exact Nat.le_of_ble_eq_true rfl | (simp; done)) ?_; conv => whnf) | (refine LdN.at 2 rfl (by first | exact Nat.le_of_ble_eq_true rfl | (simp; done)) ?_; conv => whnf))
        | ((with_reducible refine Dr.by (id := 14) Try.tysOk rfl [(0, 1), (1, 0), (2, 1), (3, 1), (4, 1), (5, 1), (6, 0), (7, 0), (8, 0)] ?_ ?_); (focus kernel_rfl); conv => whnf)
        | (first | ((with_reducible refine CD.is (fun M => Try.cpuLive _) ?_); conv => whnf) | ((with_reducible refine CD.isAt 4 rfl (fun M => Try.cpuText _ pre _ post 300 N _ (by omega) (by rw [h3]) (by omega)) ?_); conv => whnf) | ((with_reducible refine CD.isAt 5 rfl (fun M => Try.cpuText _ pre2 _ post2 _ N _ hB' (by rw [h3]) (by omega)) ?_); conv => whnf)))
      all_goals (refine Is.ent ?_ ?_; (focus (refine FEnt.ent ?_; (repeat (first | exact FEnt.rfl | refine FEnt.drop ?_)); done)); (exact Is.ttr (by first | assumption | omega)))
  · refine con_of Try.tysOk Try.func4 rfl rfl ?_
    conv => whnf
    repeat' (first
      | (first | ((with_reducible refine Br.tt ?_); conv => whnf) | ((with_reducible refine Br.ff ?_); conv => whnf) | ((with_reducible refine Br.dt ?_ ?_); (focus (first | assumption | omega)); conv => whnf))
      | ((with_reducible refine Nc.go' (fun _ => ?_)); conv => whnf)
      | ((with_reducible refine Cl.is (Try.cpuLive _) ?_); conv => whnf)
      | ((with_reducible refine Br.ds (fun _ => ?_) (fun _ => ?_) ) <;> (conv => whnf)))
    all_goals (refine Is.ent ?_ ?_; (focus (refine FEnt.ent ?_; (repeat (first | exact FEnt.rfl | refine FEnt.drop ?_)); done)); (exact Is.rfl))
/-- where two are unlike: within -/
theorem unl_seg {pre V W post : List UInt8} {B N R : Nat} (hB : pre.length = B) (hR : post.length = R) (hV : V.length = N) (hW : W.length = N) {m : Int} (h0 : 0 ≤ m) (hm : m < (B + N + R : Nat)) (h : unl 0 (pre ++ V ++ post) (pre ++ W ++ post) m) : (B : Int) ≤ m ∧ m < B + N := by
  have l1 := seg_len2 hB hV hR
  have l2 := seg_len2 hB hW hR
  have key : ∀ {X Y : List UInt8}, X.length = N → Y.length = N → ¬ ((B : Int) ≤ m ∧ m < B + N) → (pre ++ X ++ post).getD m.toNat 0 = (pre ++ Y ++ post).getD m.toNat 0 := by
    intro X Y hX hY hno
    simp only [List.getD_eq_getElem?_getD]
    by_cases h1 : m.toNat < B
    · rw [List.append_assoc, List.append_assoc, List.getElem?_append_left (by omega), List.getElem?_append_left (by omega)]
    · have e1 : (pre ++ X).length = B + N := by rw [List.length_append, hB, hX]
      have e2 : (pre ++ Y).length = B + N := by rw [List.length_append, hB, hY]
      rw [List.getElem?_append_right (by omega), List.getElem?_append_right (by omega), e1, e2]
  exact Classical.byContradiction fun hno => h ⟨by omega, by omega, key hV hW hno⟩
theorem diff_seg {pre V W post : List UInt8} {B N R : Nat} (hB : pre.length = B) (hR : post.length = R) (hV : V.length = N) (hW : W.length = N) : ∀ y ∈ runF (max (pre ++ V ++ post).length (pre ++ W ++ post).length : Nat) (unl 0 (pre ++ V ++ post) (pre ++ W ++ post)), (B : Int) ≤ y.1 ∧ y.2 ≤ B + N := by
  intro y hy
  have l1 := seg_len2 hB hV hR
  have l2 := seg_len2 hB hW hR
  have ho : RunsOf (max (pre ++ V ++ post).length (pre ++ W ++ post).length : Nat) (unl 0 (pre ++ V ++ post) (pre ++ W ++ post)) _ := runs_ok
  have hi := ho.canon.is y hy
  obtain ⟨a1, a2, a3⟩ := (ho.same y.1).1 ⟨y, hy, by omega⟩
  obtain ⟨c1, c2, c3⟩ := (ho.same (y.2 - 1)).1 ⟨y, hy, by omega⟩
  have d1 := unl_seg hB hR hV hW a1 (by omega) a3
  have d2 := unl_seg hB hR hV hW c1 (by omega) c3
  omega
theorem Try.cpuStaysLaw (s : ByteArray) (size pc m n : Int) (r : Nat → Int) (L : List HP) (hz : I64 size) (hpc : I64 pc) (hr : ∀ i, I64 (r i)) (hn : 0 ≤ n ∧ n ≤ 255) :
    Con Try.prog 6 [.string s, i64W size, stV pc r m, u8W n] L (Is (.bool true) L) := by
  by_cases hg : s.size ≤ 400 ∧ 0 ≤ size ∧ size ≤ 400
  · obtain ⟨N, rfl⟩ := Int.eq_ofNat_of_zero_le hg.2.1
    have ht : n.tmod 60 = n % 60 := Int.tmod_eq_emod_of_nonneg hn.1
    obtain ⟨pre, hpre, hpl⟩ := zeros_ex 300
    obtain ⟨post, hpost, hql⟩ := zeros_ex (1000 - 300 - N)
    have hx0 := seg_len2 hpl (startV_len s N) hql
    refine con_of Try.tysOk Try.func6 rfl rfl ?_
    conv => whnf
    refine Nc.go' (fun b6 => ?_)
    conv => whnf
    repeat' (first
      | (first | ((with_reducible refine Br.ff ?_); conv => whnf) | ((with_reducible refine Br.df ?_ ?_); (focus (first | assumption | omega)); conv => whnf))
      | ((with_reducible refine Nd.mk ?_ ?_); (focus (first | omega | rfl | assumption | (simp; done))); conv => whnf)
      | ((with_reducible refine Nc.go' (fun _ => ?_)); conv => whnf)
      | (refine St.at 0 rfl (by first | exact Nat.le_of_ble_eq_true rfl | (simp; done)) rfl ?_; conv => whnf)
      | ((refine Cl.exsAt2 1 rfl (fun M => Try.memFork _ (pre ++ startV s N ++ post) M (by omega)) ?_); (conv => whnf); rintro b2 -; conv => whnf)
      | ((refine Cl.exs (Try.lawViewP s 300 N 300 N pre post _ hpre hpost rfl (by omega) rfl (by omega) (by omega)) ?_; rintro ⟨b1, a, c⟩ ⟨hc, had⟩; dsimp only at hc had); conv => whnf))
    rename_i b10
    conv => whnf
    refine Lp.by2 Try.tysOk [13] (fun (k : Nat) (q : Mch) => [.int .i64 k]) (fun k q => ptc b10 28 [pV b1, i64W 300, i64W N] :: ptc b6 24 (stC q.pc q.r q.m) :: Try.memH b1 (pre ++ q.V ++ post) :: Try.memH b2 (pre ++ startV s N ++ post) :: L) (fun k q => k ≤ 60 ∧ Mok q ∧ q.V.length = N) (fun k q => 60 - k) (0) ((⟨startV s N, pc, r, m⟩ : Mch)) (by kernel_rfl) (by (refine FEnt.ent ?_; (repeat (first | exact FEnt.rfl | (refine FEnt.at 0 rfl ?_; (try simp only [List.eraseIdx_cons_zero, List.eraseIdx_cons_succ, List.eraseIdx_zero, List.tail_cons])) | (refine FEnt.at 1 rfl ?_; (try simp only [List.eraseIdx_cons_zero, List.eraseIdx_cons_succ, List.eraseIdx_zero, List.tail_cons])) | (refine FEnt.at 2 rfl ?_; (try simp only [List.eraseIdx_cons_zero, List.eraseIdx_cons_succ, List.eraseIdx_zero, List.tail_cons])) | (refine FEnt.at 3 rfl ?_; (try simp only [List.eraseIdx_cons_zero, List.eraseIdx_cons_succ, List.eraseIdx_zero, List.tail_cons])) | refine FEnt.drop ?_)); done)) (⟨by omega, startM_ok2 (by omega) hpc hr, startV_len s N⟩) ?_
    rintro k q ⟨h1, hq, h3⟩
    conv => whnf
    repeat (intro _; conv => whnf)
    have hx := seg_len2 hpl h3 hql
    by_cases hk : (k : Int) < n.tmod 60
    · have hlen := stepF_len q
      conv => whnf
      repeat' (first
        | ((with_reducible refine Br.dt ?_ ?_); (focus (first | assumption | omega)); conv => whnf)
        | ((with_reducible refine Ar.i64 ?_ ?_); (focus omega); conv => whnf)
        | ((with_reducible refine Nd.mk ?_ ?_); (focus (first | omega | rfl | assumption | (simp; done))); conv => whnf)
        | (first | (refine LdN.at 0 rfl (by first | exact Nat.le_of_ble_eq_true rfl | (simp; done)) ?_; conv => whnf) | (refine LdN.at 1 rfl (by first | exact Nat.le_of_ble_eq_true rfl | (simp; done)) ?_; conv => whnf))
        | (refine St.at 1 rfl (by first | exact Nat.le_of_ble_eq_true rfl | (simp; done)) rfl ?_; conv => whnf)
        | ((refine Cl.isAt 2 rfl (Try.cpuStepS _ pre post 300 N q _ (by omega) (by rw [h3]) (by omega) hq) ?_); conv => whnf))
      all_goals exact ⟨k + 1, (stepF q).1, by kernel_rfl, by (exact Ent.rfl), ⟨by omega, stepF_ok' hq, hlen.trans h3⟩, by omega⟩
    · have hd := diff_seg hpl hql (startV_len s N) h3
      have hR : (runF (max (pre ++ startV s N ++ post).length (pre ++ q.V ++ post).length : Nat) (unl 0 (pre ++ startV s N ++ post) (pre ++ q.V ++ post))).length ≤ max (pre ++ startV s N ++ post).length (pre ++ q.V ++ post).length := runs_len runs_ok
      have hdf := Try.memDiff b2 b1 (pre ++ startV s N ++ post) (pre ++ q.V ++ post)
      have hR0 : (runF (max (pre ++ startV s N ++ post).length (pre ++ q.V ++ post).length : Nat) (unl 0 (pre ++ startV s N ++ post) (pre ++ q.V ++ post))).length ≤ 1000 := by omega
      clear hR
      generalize runF (max (pre ++ startV s N ++ post).length (pre ++ q.V ++ post).length : Nat) (unl 0 (pre ++ startV s N ++ post) (pre ++ q.V ++ post)) = R at *
      conv => whnf
      repeat' (first
        | ((with_reducible refine Br.df ?_ ?_); (focus (first | assumption | omega)); conv => whnf)
        | ((with_reducible refine Ar.i64 ?_ ?_); (focus omega); conv => whnf)
        | ((with_reducible refine Nd.mk ?_ ?_); (focus (first | omega | rfl | assumption | (simp; done))); conv => whnf)
        | ((refine Cl.new (Con.newAt (perm_at2 3 2 rfl rfl) (hdf _ (by omega) (by omega))) (fun _ _ _ _ => ?_)); conv => whnf))
      rename_i a3 c3 hc3 had3
      conv => whnf
      refine Lp.by Try.tysOk [15] (fun (k : Nat) => [.int .i64 k]) (fun k => own spE 58 a3 c3 R :: L) (fun k => k ≤ R.length) (fun k => R.length - k) (0) (by kernel_rfl) (by (refine FEnt.ent ?_; (repeat (first | exact FEnt.rfl | (refine FEnt.at 0 rfl ?_; (try simp only [List.eraseIdx_cons_zero, List.eraseIdx_cons_succ, List.eraseIdx_zero, List.tail_cons])) | refine FEnt.drop ?_)); done)) (by omega) ?_
      rintro k2 g1
      conv => whnf
      repeat (intro _; conv => whnf)
      by_cases hk2 : k2 < R.length
      · have hin := hd _ (getD_mem (d := spE.d) hk2)
        conv => whnf
        repeat' (first
          | (first | ((with_reducible refine Br.ff ?_); conv => whnf) | ((with_reducible refine Br.dt ?_ ?_); (focus (first | assumption | omega)); conv => whnf) | ((with_reducible refine Br.df ?_ ?_); (focus (first | assumption | omega)); conv => whnf))
          | ((with_reducible refine Ar.i64 ?_ ?_); (focus omega); conv => whnf)
          | ((with_reducible refine Ix.ad ?_ ?_ ?_); (focus (assumption)); (focus (omega)); conv => whnf)
          | ((first | (with_reducible apply Ld.rdk) | (with_reducible apply Ld.rdk0)); (focus ((repeat ((refine Rd.own 0 rfl ?_); (assumption))); done)); (focus rfl); (focus (omega)); (focus rfl); conv => whnf))
        all_goals exact ⟨k2 + 1, by kernel_rfl, by (exact Ent.rfl), by omega, by omega⟩
      · conv => whnf
        repeat' (first
          | ((with_reducible refine Br.df ?_ ?_); (focus (first | assumption | omega)); conv => whnf)
          | ((with_reducible refine Cl.is (Try.cpuLive _) ?_); conv => whnf))
        all_goals (refine Is.ent ?_ ?_; (focus (refine FEnt.ent ?_; (repeat (first | exact FEnt.rfl | refine FEnt.drop ?_)); done)); (exact Is.rfl))
  · refine con_of Try.tysOk Try.func6 rfl rfl ?_
    conv => whnf
    repeat' (first
      | (first | ((with_reducible refine Br.tt ?_); conv => whnf) | ((with_reducible refine Br.ff ?_); conv => whnf) | ((with_reducible refine Br.dt ?_ ?_); (focus (first | assumption | omega)); conv => whnf))
      | ((with_reducible refine Nc.go' (fun _ => ?_)); conv => whnf)
      | ((with_reducible refine Cl.is (Try.cpuLive _) ?_); conv => whnf)
      | ((with_reducible refine Br.ds (fun _ => ?_) (fun _ => ?_) ) <;> (conv => whnf)))
    all_goals (refine Is.ent ?_ ?_; (focus (refine FEnt.ent ?_; (repeat (first | exact FEnt.rfl | refine FEnt.drop ?_)); done)); (exact Is.rfl))
end Go.Proofs
