/- As many marks as a text may have: the statement. -/
import Derived.Test.YtkecobhmglcnfaaDoorTraceM
import Derived.Test.YtkecobhmglcnfaaDoorEngOpen
set_option linter.all false
namespace Go.Eng
open Go Go.ChangeShapes Go.WideShapes Go.ChangeAt Go.RowKit
section
variable {H : Type} {enc : TypeId × Value → H} {P : Program} {W : World} {r : Reach} {b0 : Nat} {sq : Nat → Bool} {held : Bool} {t : TypeId} {v : Value} {d : DataW H} {ps : List MemPlace}
theorem arg_i8 (ht : P.underlying t = some (.int .i8)) (hv : Value.okWide P W r b0 t v) (h : DataW.Trod enc P W 0 sq held t v d ps) : ∃ n, v = .int .i8 n ∧ -128 ≤ n ∧ n ≤ 127 := by
  obtain ⟨n, rfl⟩ := okWide_int ht hv
  obtain ⟨fuel, h⟩ := h
  obtain ⟨y, hy, iy⟩ := (op_int ht).go h
  simp [Value.cells] at hy
  subst hy
  exact ⟨_, rfl, by simpa [Lit.wf, IntKind.min, IntKind.max, IntKind.signed, IntKind.bits] using iy⟩
end
end Go.Eng
namespace Go.Proofs
open Go.Eng
open Classical
set_option linter.unusedVariables false
set_option maxRecDepth 100000
set_option maxHeartbeats 4000000
theorem rep_prn (m : Mrk) (i : Nat) : prnF (List.replicate (i + 1) m) = prnF (List.replicate i m) ++ lineF m := by
  rw [List.replicate_succ']
  simp [prnF]
theorem rep_len (m : Mrk) (i : Nat) : (prnF (List.replicate i m)).length = i * (lineF m).length := by
  induction i with
  | zero => simp [prnF]
  | succ i ih => rw [rep_prn, List.length_append, ih, Nat.succ_mul]
theorem Tryd.traceMostLaw (m : Mrk) (k8 : Int) (L : List HP) (hB : MrB m) (hd : m.d.size ≤ 9223372036854775807) (h8 : -128 ≤ k8 ∧ k8 ≤ 127) (hG : Tryd.Gk L) (hM : Tryd.Mx L) :
    Con Tryd.prog 6 [mrV m, .int .i8 k8] L (Is (.bool true) L) := by
  have hlv := fun L h => Tryd.trcLive L h
  have hmy := fun L => Tryd.refMay33 m L hB
  by_cases hM1 : MayM m
  · have hmy := fun L => Con.dt hM1 (hmy L)
    by_cases h20 : m.d.size ≤ 20
    · have hln := fun L => Tryd.refLine33 m L hM1 hB (by omega)
      have hjl := joinF_len hM1
      obtain ⟨r, hr, hr1, hr2⟩ : ∃ r, k8.tmod 3 = r ∧ -2 ≤ r ∧ r ≤ 2 := ⟨_, rfl, by
        rcases Int.lt_or_le k8 0 with h | h
        · have : k8.tmod 3 = -((-k8) % 3) := by
            rw [← Int.neg_neg k8, Int.neg_tmod, Int.tmod_eq_emod_of_nonneg (by omega), Int.neg_neg]
          omega
        · rw [Int.tmod_eq_emod_of_nonneg h]; omega, by
        rcases Int.lt_or_le k8 0 with h | h
        · have : k8.tmod 3 = -((-k8) % 3) := by
            rw [← Int.neg_neg k8, Int.neg_tmod, Int.tmod_eq_emod_of_nonneg (by omega), Int.neg_neg]
          omega
        · rw [Int.tmod_eq_emod_of_nonneg h]; omega⟩
      obtain ⟨N, hN⟩ : ∃ N : Nat, (N : Int) = 4096 + r := ⟨(4096 + r).toNat, by omega⟩
      have hz : (⟨#[10]⟩ : ByteArray).size = 1 := rfl
      have hw1 : (bsL (joinF m)).size ≤ 140 := by rw [bsL_size]; omega
      have hwl : (bsL (joinF m) ++ (⟨#[10]⟩ : ByteArray)).data.toList = lineF m := by rw [append_list]; rfl
      have hws : (bsL (joinF m) ++ (⟨#[10]⟩ : ByteArray)).size ≤ 141 := by rw [app_size]; omega
      have hll : (lineF m).length ≤ 141 := by rw [← hwl, size_list]; exact hws
      have hpl := fun i => rep_len m i
      have hps := fun i => rep_prn m i
      have hrs := fun i => List.replicate_succ' (n := i) (a := m)
      refine con_of Tryd.tysOk Tryd.func6 rfl rfl ?_
      conv => whnf
      repeat' (first
        | (first | ((with_reducible refine Br.ff ?_); conv => whnf) | ((with_reducible refine Br.nt ?_); conv => whnf) | ((with_reducible refine Br.df ?_ ?_); (focus (first | assumption | omega)); conv => whnf))
        | ((with_reducible refine Ar.i64 ?_ ?_); (focus omega); conv => whnf)
        | ((with_reducible refine Nd.mk ?_ ?_); (focus (first | omega | rfl | assumption | (simp; done))); conv => whnf)
        | ((with_reducible refine Nc.go' (fun _ => ?_)); conv => whnf)
        | (refine Ld.at 0 rfl rfl ?_; conv => whnf)
        | (first | (refine LdN.at 0 rfl (by first | exact Nat.le_of_ble_eq_true rfl | (simp; done)) ?_; conv => whnf) | (refine LdN.at 1 rfl (by first | exact Nat.le_of_ble_eq_true rfl | (simp; done)) ?_; conv => whnf))
        | (first | ((with_reducible refine Cl.is (hmy _) ?_); conv => whnf) | ((with_reducible refine Cl.is (hln _) ?_); conv => whnf))
        | ((rw [hr]); conv => whnf))
      rename_i b2 b29 b33
      generalize hW : bsL (joinF m) ++ (⟨#[10]⟩ : ByteArray) = w at *
      conv => whnf
      refine Lp.by3 Tryd.tysOk [9, 6, 8] (fun (i : Nat) (P : Option Addr × Nat × List Mrk) (Q : Option Addr × Nat × List UInt8) => [.int .i64 i, .slice P.1 P.2.2.length P.2.1, .slice Q.1 Q.2.2.length Q.2.1]) (fun i P Q => own mrE 29 P.1 P.2.1 P.2.2 :: own u8E 5 Q.1 Q.2.1 Q.2.2 :: ptc b2 29 (mrC m) :: L) (fun i P Q => i ≤ N ∧ (P.2.2 = List.replicate i m ∧ P.2.2.length ≤ P.2.1 ∧ Ad P.1 P.2.2.length) ∧ (Q.2.2 = prnF (List.replicate i m) ∧ Q.2.2.length ≤ Q.2.1 ∧ Ad Q.1 Q.2.2.length)) (fun i P Q => N - i) (0) (((some ⟨b29, 0, none⟩, 0, []) : Option Addr × Nat × List Mrk)) (((some ⟨b33, 0, none⟩, 0, []) : Option Addr × Nat × List UInt8)) (by kernel_rfl) (by (refine FEnt.ent ?_; (repeat (first | exact FEnt.rfl | (refine FEnt.own0 0 rfl ?_; (try simp only [List.eraseIdx_cons_zero, List.eraseIdx_cons_succ, List.eraseIdx_zero, List.tail_cons])) | (refine FEnt.own0 1 rfl ?_; (try simp only [List.eraseIdx_cons_zero, List.eraseIdx_cons_succ, List.eraseIdx_zero, List.tail_cons])))); done)) (⟨by omega, ⟨rfl, by simp, fun _ => rfl⟩, ⟨rfl, by simp, fun _ => rfl⟩⟩) ?_
      rintro i ⟨a, c, ys⟩ ⟨a2, c2, zs⟩ ⟨g0, ⟨g1, g2, g3⟩, ⟨g4, g5, g6⟩⟩
      conv => whnf
      repeat (intro _; conv => whnf)
      dsimp only at g1 g2 g3 g4 g5 g6
      have hyl : ys.length = i := by rw [g1, List.length_replicate]
      have hzl : zs.length ≤ 141 * i := by
        rw [g4, hpl, Nat.mul_comm]
        exact Nat.mul_le_mul_right _ hll
      by_cases hi : i < N
      · have e1 : ys ++ [m] = List.replicate (i + 1) m := by rw [g1, hrs]
        have e2 : zs ++ w.data.toList = prnF (List.replicate (i + 1) m) := by rw [g4, hps, hwl]
        clear g1 g4 hpl hps hrs hlv hln hmy
        conv => whnf
        repeat' (first
          | ((with_reducible refine Br.dt ?_ ?_); (focus (first | assumption | omega)); conv => whnf)
          | ((with_reducible refine Ar.i64 ?_ ?_); (focus omega); conv => whnf)
          | ((with_reducible refine Nc.go' (fun _ => ?_)); conv => whnf)
          | (refine LdN.at 2 rfl (by first | exact Nat.le_of_ble_eq_true rfl | (simp; done)) ?_; conv => whnf)
          | ((with_reducible refine (?_ : Sm _ (Builtin.append_ _ _ _) _ _)); (((with_reducible apply (Sm.appAt (E := mrE) (et := 29) Tryd.tysOk 1)); (focus rfl)); (rotate_left; (focus (exact Rd.ptc 0 rfl [_] rfl)); rotate_right; (focus rfl)); (focus rfl); (focus rfl); (focus rfl); (focus rfl); (focus rfl); (focus rfl); (focus ((simp only [List.length_append, List.length_cons, List.length_nil]); omega)); (intro _ _ _ _); conv => whnf))
          | ((refine Sm.appStrAt Tryd.tysOk 2 rfl rfl rfl rfl rfl rfl rfl rfl rfl (by (try dsimp only); omega) (fun a6 c6 hc6 had6 => ?_)); conv => whnf))
        all_goals try (exfalso; omega)
        rename_i a5 c5 hc5 had5
        exact ⟨i + 1, (a5, c5, ys ++ [m]), (a6, c6, zs ++ w.data.toList), by kernel_rfl, by (try dsimp only); (refine FEnt.ent ?_; (repeat (first | exact FEnt.rfl | (refine FEnt.at 0 rfl ?_; (try simp only [List.eraseIdx_cons_zero, List.eraseIdx_cons_succ, List.eraseIdx_zero, List.tail_cons])) | (refine FEnt.at 1 rfl ?_; (try simp only [List.eraseIdx_cons_zero, List.eraseIdx_cons_succ, List.eraseIdx_zero, List.tail_cons])) | refine FEnt.drop ?_)); done), ⟨by omega, ⟨e1, hc5, had5⟩, ⟨e2, hc6, had6⟩⟩, by omega⟩
      · obtain rfl : i = N := by omega
        have hall : ∀ x ∈ ys, MayM x := fun x hx => by rw [g1] at hx; rw [List.eq_of_mem_replicate hx]; exact hM1
        have hallB : ∀ x ∈ ys, MrB x ∧ x.d.size ≤ 1000000 := fun x hx => by rw [g1] at hx; rw [List.eq_of_mem_replicate hx]; exact ⟨hB, by omega⟩
        rw [← g1] at g4
        have hps := prsF_prn hall
        by_cases h4 : 4096 < ys.length
        · have hp := fun L h hg => Tryd.trcPrint a c ys [] 4 L (by omega) hallB h hg (.long h4)
          rw [if_neg (by omega), ← g4] at hps
          have hpa := fun L h => Tryd.trcParse (bsL zs) [] 4097 4 L (by rw [bsL_size]; omega) h hps
          have he : (([] : List Mrk).length : Int) = 0 := rfl
          clear hall hallB hps g1 g4 hpl hrs hln hmy
          conv => whnf
          repeat' (first
            | (first | ((with_reducible refine Br.tt ?_); conv => whnf) | ((with_reducible refine Br.dt ?_ ?_); (focus (first | assumption | omega)); conv => whnf) | ((with_reducible refine Br.df ?_ ?_); (focus (first | assumption | omega)); conv => whnf) | ((with_reducible refine Br.yes ?_ ?_); (focus (first | (simp; done) | (simp; omega))); conv => whnf))
            | ((with_reducible refine Nd.mk ?_ ?_); (focus (first | omega | rfl | assumption | (simp; done))); conv => whnf)
            | (first | ((with_reducible refine Cl.is (hp _ (by ((repeat ((refine Rd.own 0 rfl ?_); (assumption))); done)) (by ((repeat (first | assumption | apply Tryd.gkCons | apply Tryd.gkApp)); done))) ?_); conv => whnf) | ((with_reducible refine Cl.exs (hpa _ (by ((repeat (first | assumption | apply Tryd.mxCons | apply Tryd.mxApp)); done))) (fun ⟨ap, cp⟩ ⟨hp3, hp4⟩ => ?_)); conv => whnf) | ((with_reducible refine Cl.is (hlv _ (by ((repeat (first | assumption | apply Tryd.gkCons | apply Tryd.gkApp)); done))) ?_); conv => whnf))
            | ((with_reducible refine (?_ : Sm _ (convert _ _ _) _ _)); ((apply (Sm.b2s Tryd.tysOk)); ((focus rfl); (focus ((repeat ((refine Rd.own 1 rfl ?_); (assumption))); done))); (focus rfl); (focus rfl); (focus rfl); (focus rfl); (focus rfl); (focus rfl); conv => whnf)))
          all_goals first | (refine Is.ent ?_ ?_; (focus (refine FEnt.ent ?_; (repeat (first | exact FEnt.rfl | refine FEnt.drop ?_)); done)); (exact Is.rfl)) | (exfalso; omega)
        · have hp := fun L h hg => Tryd.trcPrint a c ys (prnF ys) 0 L (by omega) hallB h hg (.ok (by omega) hall)
          rw [← g4] at hp
          rw [if_pos (by omega), ← g4] at hps
          have hpa := fun L h => Tryd.trcParse (bsL zs) ys 0 0 L (by rw [bsL_size]; omega) h hps
          clear hall hallB hps g1 g4 hpl hrs hln hmy
          conv => whnf
          repeat' (first
            | (first | ((with_reducible refine Br.tt ?_); conv => whnf) | ((with_reducible refine Br.dt ?_ ?_); (focus (first | assumption | omega)); conv => whnf) | ((with_reducible refine Br.df ?_ ?_); (focus (first | assumption | omega)); conv => whnf) | ((with_reducible refine Br.yes ?_ ?_); (focus (first | (simp; done) | (simp; omega))); conv => whnf))
            | ((with_reducible refine Nd.mk ?_ ?_); (focus (first | omega | rfl | assumption | (simp; done))); conv => whnf)
            | (first | ((with_reducible refine Cl.is (hp _ (by ((repeat ((refine Rd.own 0 rfl ?_); (assumption))); done)) (by ((repeat (first | assumption | apply Tryd.gkCons | apply Tryd.gkApp)); done))) ?_); conv => whnf) | ((with_reducible refine Cl.exs (hpa _ (by ((repeat (first | assumption | apply Tryd.mxCons | apply Tryd.mxApp)); done))) (fun ⟨ap, cp⟩ ⟨hp3, hp4⟩ => ?_)); conv => whnf) | ((with_reducible refine Cl.is (hlv _ (by ((repeat (first | assumption | apply Tryd.gkCons | apply Tryd.gkApp)); done))) ?_); conv => whnf))
            | ((with_reducible refine (?_ : Sm _ (convert _ _ _) _ _)); ((apply (Sm.b2s Tryd.tysOk)); ((focus rfl); (focus ((repeat ((first | refine Rd.own 1 rfl ?_ | refine Rd.own 2 rfl ?_); (assumption))); done))); (focus rfl); (focus rfl); (focus rfl); (focus rfl); (focus rfl); (focus rfl); conv => whnf)))
          all_goals first | (refine Is.ent ?_ ?_; (focus (refine FEnt.ent ?_; (repeat (first | exact FEnt.rfl | refine FEnt.drop ?_)); done)); (exact Is.rfl)) | (exfalso; omega)
    · refine con_of Tryd.tysOk Tryd.func6 rfl rfl ?_
      conv => whnf
      repeat' (first
        | (first | ((with_reducible refine Br.ff ?_); conv => whnf) | ((with_reducible refine Br.nt ?_); conv => whnf) | ((with_reducible refine Br.dt ?_ ?_); (focus (first | assumption | omega)); conv => whnf))
        | ((with_reducible refine Nc.go' (fun _ => ?_)); conv => whnf)
        | (refine Ld.at 0 rfl rfl ?_; conv => whnf)
        | (refine LdN.at 0 rfl (by first | exact Nat.le_of_ble_eq_true rfl | (simp; done)) ?_; conv => whnf)
        | (first | ((with_reducible refine Cl.is (hmy _) ?_); conv => whnf) | ((with_reducible refine Cl.is (hlv _ (by ((repeat (first | assumption | apply Tryd.gkCons | apply Tryd.gkApp)); done))) ?_); conv => whnf)))
      all_goals first | (refine Is.ent ?_ ?_; (focus (refine FEnt.ent ?_; (repeat (first | exact FEnt.rfl | refine FEnt.drop ?_)); done)); (exact Is.rfl)) | (exfalso; omega)
  · have hmy := fun L => Con.df hM1 (hmy L)
    refine con_of Tryd.tysOk Tryd.func6 rfl rfl ?_
    conv => whnf
    repeat' (first
      | (first | ((with_reducible refine Br.tt ?_); conv => whnf) | ((with_reducible refine Br.nf ?_); conv => whnf))
      | ((with_reducible refine Nc.go' (fun _ => ?_)); conv => whnf)
      | (refine LdN.at 0 rfl (by first | exact Nat.le_of_ble_eq_true rfl | (simp; done)) ?_; conv => whnf)
      | (first | ((with_reducible refine Cl.is (hmy _) ?_); conv => whnf) | ((with_reducible refine Cl.is (hlv _ (by ((repeat (first | assumption | apply Tryd.gkCons | apply Tryd.gkApp)); done))) ?_); conv => whnf)))
    all_goals first | (refine Is.ent ?_ ?_; (focus (refine FEnt.ent ?_; (repeat (first | exact FEnt.rfl | refine FEnt.drop ?_)); done)); (exact Is.rfl)) | (exfalso; omega)
end Go.Proofs
