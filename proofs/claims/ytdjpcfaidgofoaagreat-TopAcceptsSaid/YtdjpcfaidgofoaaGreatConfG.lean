/- A machine's tables: are they right, by the document: contracts. -/
import Derived.Test.YtdjpcfaidgofoaaGreatConfF
import Derived.Test.YtdjpcfaidgofoaaGreatEngFrame
set_option linter.all false
namespace Go.Proofs
open Go.Eng
open Classical
set_option linter.unusedVariables false
set_option maxRecDepth 100000
set_option maxHeartbeats 2000000
theorem Tryz.has3 (C : Cfg) (r : Int) (L : List HP) (hB : CfB C) (hF : frF C) (h0 : 0 ≤ r ∧ r ≤ 32) (hr : Rd clE L C.ca C.xs) : Con Tryz.prog 19 [cfV C, n64 3, n64 r] L (Is (.bool (decide (inR r C.xs.length ∧ b3 C (r - 1).toNat))) L) := by
  by_cases hi : inR r C.xs.length
  · have hbx := fun L => Tryz.refBad (cX C (r - 1).toNat) L (hB.c _ (getD_mem (by omega)))
    refine con_of Tryz.tysOk Tryz.func19 rfl rfl ?_
    conv => whnf
    repeat' (first
      | (first | ((with_reducible refine Br.dt ?_ ?_); (focus (first | assumption | omega)); conv => whnf) | ((with_reducible refine Br.df ?_ ?_); (focus (first | assumption | omega)); conv => whnf))
      | ((with_reducible refine Ar.i64 ?_ ?_); (focus omega); conv => whnf)
      | ((with_reducible refine Nc.go' (fun _ => ?_)); conv => whnf))
    rename_i bb
    conv => whnf
    refine Lp.by Tryz.tysOk [8] (fun (k : Nat) => [.int .i64 k]) (fun k => ptc bb 28 (cfC C) :: L) (fun k => k ≤ (r - 1).toNat ∧ ∀ j, j < k → ¬ (goodC (cX C (r - 1).toNat) ∧ goodC (cX C j) ∧ sameC (cX C (r - 1).toNat) (cX C j))) (fun k => (r - 1).toNat - k) (0) (by kernel_rfl) (by (exact Ent.rfl)) (⟨by omega, fun i h => by omega⟩) ?_
    rintro k ⟨h1, h2⟩
    conv => whnf
    repeat (intro _; conv => whnf)
    by_cases hk : k < (r - 1).toNat
    · have hby := fun L => Tryz.refBad (cX C k) L (hB.c _ (getD_mem (by omega)))
      by_cases hgx : goodC (cX C (r - 1).toNat)
      · by_cases hgy : goodC (cX C k)
        · have x1 := hgx.1
          have x2 := hgx.2.2.2.2
          have y1 := hgy.1
          have y2 := hgy.2.2.2.2
          have hm1 := fun L => Tryz.refMeet (cX C (r - 1).toNat).b (cX C (r - 1).toNat).z (cX C k).b (cX C k).z L ⟨by omega, by omega⟩ ⟨by omega, by omega⟩
          have hm2 := fun L => Tryz.refMeet (cX C (r - 1).toNat).f (cX C (r - 1).toNat).s (cX C k).f (cX C k).s L ⟨by omega, by omega⟩ ⟨by omega, by omega⟩
          have cbx := fun L => Con.df (fun h => h hgx : ¬ ¬ goodC (cX C (r - 1).toNat)) (hbx L)
          have cby := fun L => Con.df (fun h => h hgy : ¬ ¬ goodC (cX C k)) (hby L)
          clear x1 x2 y1 y2 hbx hby
          by_cases e1 : (cX C (r - 1).toNat).m = (cX C k).m
          · have hb : b3 C (r - 1).toNat := ⟨hgx, k, hk, hgy, .inl e1⟩
            clear hgx hgy
            simp only [cX] at e1
            conv => whnf
            repeat' (first
              | (first | ((with_reducible refine Br.tt ?_); conv => whnf) | ((with_reducible refine Br.dt ?_ ?_); (focus (first | assumption | omega)); conv => whnf))
              | (refine Ld.at 0 rfl rfl ?_; conv => whnf))
            conv => whnf
            refine Dr.fr (id := 9) Tryz.tysOk rfl [(0, 0), (2, 0), (5, 0), (7, 0), (1, 1), (3, 0), (4, 1), (6, 1), (8, 0), (9, 1), (10, 2), (11, 2), (12, 5), (13, 5)] ([]) (ptc bb 28 (cfC C) :: L) (by kernel_rfl) (by (exact Ent.rfl)) ?_
            conv => whnf
            conv => whnf
            repeat' (first
              | (first | ((with_reducible refine Br.tt ?_); conv => whnf) | ((with_reducible refine Br.nf ?_); conv => whnf) | ((with_reducible refine Br.dt ?_ ?_); (focus (first | assumption | omega)); conv => whnf))
              | ((with_reducible refine Nd.mk ?_ ?_); (focus (first | omega | rfl | assumption | (simp; done))); conv => whnf)
              | ((with_reducible refine Nc.go' (fun _ => ?_)); conv => whnf)
              | ((with_reducible refine Ix.ad ?_ ?_ ?_); (focus (exact Rd.ad (by assumption))); (focus (omega)); conv => whnf)
              | (first | (refine Ld.at 0 rfl rfl ?_; conv => whnf) | (refine Ld.at 1 rfl rfl ?_; conv => whnf))
              | (first | ((first | (with_reducible apply LdN.rdk) | apply LdN.rd); (focus ((repeat (first | assumption | apply Rd.cons)); done)); (focus rfl); (focus rfl); (focus (omega)); conv => whnf) | (refine LdN.at 0 rfl (by first | exact Nat.le_of_ble_eq_true rfl | (simp; done)) ?_; conv => whnf) | (refine LdN.at 1 rfl (by first | exact Nat.le_of_ble_eq_true rfl | (simp; done)) ?_; conv => whnf))
              | (first | (refine FS.at 0 rfl (by first | exact Nat.le_of_ble_eq_true rfl | (simp; done)) rfl ?_; conv => whnf) | (refine FS.at 1 rfl (by first | exact Nat.le_of_ble_eq_true rfl | (simp; done)) rfl ?_; conv => whnf))
              | (first | ((with_reducible refine Cl.is (cbx _) ?_); conv => whnf) | ((with_reducible refine Cl.is (cby _) ?_); conv => whnf)))
            all_goals exact Is.ent (by (refine FEnt.ent ?_; (repeat (first | exact FEnt.rfl | refine FEnt.drop ?_)); done)) (Is.tt ⟨hi, hb⟩)
          · by_cases e2 : (cX C (r - 1).toNat).h = (cX C k).h
            · have hb : b3 C (r - 1).toNat := ⟨hgx, k, hk, hgy, .inr (.inl e2)⟩
              clear hgx hgy
              simp only [cX] at e1 e2
              conv => whnf
              repeat' (first
                | (first | ((with_reducible refine Br.tt ?_); conv => whnf) | ((with_reducible refine Br.dt ?_ ?_); (focus (first | assumption | omega)); conv => whnf))
                | (refine Ld.at 0 rfl rfl ?_; conv => whnf))
              conv => whnf
              refine Dr.fr (id := 9) Tryz.tysOk rfl [(0, 0), (2, 0), (5, 0), (7, 0), (1, 1), (3, 0), (4, 1), (6, 1), (8, 0), (9, 1), (10, 2), (11, 2), (12, 5), (13, 5)] ([]) (ptc bb 28 (cfC C) :: L) (by kernel_rfl) (by (exact Ent.rfl)) ?_
              conv => whnf
              conv => whnf
              repeat' (first
                | (first | ((with_reducible refine Br.tt ?_); conv => whnf) | ((with_reducible refine Br.ff ?_); conv => whnf) | ((with_reducible refine Br.nf ?_); conv => whnf) | ((with_reducible refine Br.dt ?_ ?_); (focus (first | assumption | omega)); conv => whnf) | ((with_reducible refine Br.df ?_ ?_); (focus (first | assumption | omega)); conv => whnf))
                | ((with_reducible refine Nd.mk ?_ ?_); (focus (first | omega | rfl | assumption | (simp; done))); conv => whnf)
                | ((with_reducible refine Nc.go' (fun _ => ?_)); conv => whnf)
                | ((with_reducible refine Ix.ad ?_ ?_ ?_); (focus (exact Rd.ad (by assumption))); (focus (omega)); conv => whnf)
                | (first | (refine Ld.at 0 rfl rfl ?_; conv => whnf) | (refine Ld.at 1 rfl rfl ?_; conv => whnf))
                | (first | ((first | (with_reducible apply LdN.rdk) | apply LdN.rd); (focus ((repeat (first | assumption | apply Rd.cons)); done)); (focus rfl); (focus rfl); (focus (omega)); conv => whnf) | (refine LdN.at 0 rfl (by first | exact Nat.le_of_ble_eq_true rfl | (simp; done)) ?_; conv => whnf) | (refine LdN.at 1 rfl (by first | exact Nat.le_of_ble_eq_true rfl | (simp; done)) ?_; conv => whnf))
                | (first | (refine FS.at 0 rfl (by first | exact Nat.le_of_ble_eq_true rfl | (simp; done)) rfl ?_; conv => whnf) | (refine FS.at 1 rfl (by first | exact Nat.le_of_ble_eq_true rfl | (simp; done)) rfl ?_; conv => whnf))
                | (first | ((with_reducible refine Cl.is (cbx _) ?_); conv => whnf) | ((with_reducible refine Cl.is (cby _) ?_); conv => whnf)))
              all_goals exact Is.ent (by (refine FEnt.ent ?_; (repeat (first | exact FEnt.rfl | refine FEnt.drop ?_)); done)) (Is.tt ⟨hi, hb⟩)
            · by_cases e3 : meetS (cX C (r - 1).toNat).b ((cX C (r - 1).toNat).b + (cX C (r - 1).toNat).z) (cX C k).b ((cX C k).b + (cX C k).z)
              · have hb : b3 C (r - 1).toNat := ⟨hgx, k, hk, hgy, .inr (.inr (.inl e3))⟩
                have cm1 := fun L => Con.dt e3 (hm1 L)
                clear hgx hgy e3 hm1
                simp only [cX] at e1 e2
                conv => whnf
                repeat' (first
                  | (first | ((with_reducible refine Br.tt ?_); conv => whnf) | ((with_reducible refine Br.dt ?_ ?_); (focus (first | assumption | omega)); conv => whnf))
                  | (refine Ld.at 0 rfl rfl ?_; conv => whnf))
                conv => whnf
                refine Dr.fr (id := 9) Tryz.tysOk rfl [(0, 0), (2, 0), (5, 0), (7, 0), (1, 1), (3, 0), (4, 1), (6, 1), (8, 0), (9, 1), (10, 2), (11, 2), (12, 5), (13, 5)] ([]) (ptc bb 28 (cfC C) :: L) (by kernel_rfl) (by (exact Ent.rfl)) ?_
                conv => whnf
                conv => whnf
                repeat' (first
                  | (first | ((with_reducible refine Br.tt ?_); conv => whnf) | ((with_reducible refine Br.ff ?_); conv => whnf) | ((with_reducible refine Br.nf ?_); conv => whnf) | ((with_reducible refine Br.df ?_ ?_); (focus (first | assumption | omega)); conv => whnf))
                  | ((with_reducible refine Nd.mk ?_ ?_); (focus (first | omega | rfl | assumption | (simp; done))); conv => whnf)
                  | ((with_reducible refine Nc.go' (fun _ => ?_)); conv => whnf)
                  | ((with_reducible refine Ix.ad ?_ ?_ ?_); (focus (exact Rd.ad (by assumption))); (focus (omega)); conv => whnf)
                  | (first | (refine Ld.at 0 rfl rfl ?_; conv => whnf) | (refine Ld.at 1 rfl rfl ?_; conv => whnf))
                  | (first | ((first | (with_reducible apply LdN.rdk) | apply LdN.rd); (focus ((repeat (first | assumption | apply Rd.cons)); done)); (focus rfl); (focus rfl); (focus (omega)); conv => whnf) | (refine LdN.at 0 rfl (by first | exact Nat.le_of_ble_eq_true rfl | (simp; done)) ?_; conv => whnf) | (refine LdN.at 1 rfl (by first | exact Nat.le_of_ble_eq_true rfl | (simp; done)) ?_; conv => whnf))
                  | (first | (refine FS.at 0 rfl (by first | exact Nat.le_of_ble_eq_true rfl | (simp; done)) rfl ?_; conv => whnf) | (refine FS.at 1 rfl (by first | exact Nat.le_of_ble_eq_true rfl | (simp; done)) rfl ?_; conv => whnf))
                  | (first | ((with_reducible refine Cl.is (cbx _) ?_); conv => whnf) | ((with_reducible refine Cl.is (cby _) ?_); conv => whnf) | ((with_reducible refine Cl.is (cm1 _) ?_); conv => whnf)))
                all_goals exact Is.ent (by (refine FEnt.ent ?_; (repeat (first | exact FEnt.rfl | refine FEnt.drop ?_)); done)) (Is.tt ⟨hi, hb⟩)
              · by_cases e4 : meetS (cX C (r - 1).toNat).f ((cX C (r - 1).toNat).f + (cX C (r - 1).toNat).s) (cX C k).f ((cX C k).f + (cX C k).s)
                · have hb : b3 C (r - 1).toNat := ⟨hgx, k, hk, hgy, .inr (.inr (.inr e4))⟩
                  have cm1 := fun L => Con.df e3 (hm1 L)
                  have cm2 := fun L => Con.dt e4 (hm2 L)
                  clear hgx hgy e3 e4 hm1 hm2
                  simp only [cX] at e1 e2
                  conv => whnf
                  repeat' (first
                    | (first | ((with_reducible refine Br.tt ?_); conv => whnf) | ((with_reducible refine Br.dt ?_ ?_); (focus (first | assumption | omega)); conv => whnf))
                    | (refine Ld.at 0 rfl rfl ?_; conv => whnf))
                  conv => whnf
                  refine Dr.fr (id := 9) Tryz.tysOk rfl [(0, 0), (2, 0), (5, 0), (7, 0), (1, 1), (3, 0), (4, 1), (6, 1), (8, 0), (9, 1), (10, 2), (11, 2), (12, 5), (13, 5)] ([]) (ptc bb 28 (cfC C) :: L) (by kernel_rfl) (by (exact Ent.rfl)) ?_
                  conv => whnf
                  conv => whnf
                  repeat' (first
                    | (first | ((with_reducible refine Br.tt ?_); conv => whnf) | ((with_reducible refine Br.ff ?_); conv => whnf) | ((with_reducible refine Br.nf ?_); conv => whnf) | ((with_reducible refine Br.df ?_ ?_); (focus (first | assumption | omega)); conv => whnf))
                    | ((with_reducible refine Nd.mk ?_ ?_); (focus (first | omega | rfl | assumption | (simp; done))); conv => whnf)
                    | ((with_reducible refine Nc.go' (fun _ => ?_)); conv => whnf)
                    | ((with_reducible refine Ix.ad ?_ ?_ ?_); (focus (exact Rd.ad (by assumption))); (focus (omega)); conv => whnf)
                    | (first | (refine Ld.at 0 rfl rfl ?_; conv => whnf) | (refine Ld.at 1 rfl rfl ?_; conv => whnf))
                    | (first | ((first | (with_reducible apply LdN.rdk) | apply LdN.rd); (focus ((repeat (first | assumption | apply Rd.cons)); done)); (focus rfl); (focus rfl); (focus (omega)); conv => whnf) | (refine LdN.at 0 rfl (by first | exact Nat.le_of_ble_eq_true rfl | (simp; done)) ?_; conv => whnf) | (refine LdN.at 1 rfl (by first | exact Nat.le_of_ble_eq_true rfl | (simp; done)) ?_; conv => whnf))
                    | (first | (refine FS.at 0 rfl (by first | exact Nat.le_of_ble_eq_true rfl | (simp; done)) rfl ?_; conv => whnf) | (refine FS.at 1 rfl (by first | exact Nat.le_of_ble_eq_true rfl | (simp; done)) rfl ?_; conv => whnf))
                    | (first | ((with_reducible refine Cl.is (cbx _) ?_); conv => whnf) | ((with_reducible refine Cl.is (cby _) ?_); conv => whnf) | ((with_reducible refine Cl.is (cm1 _) ?_); conv => whnf) | ((with_reducible refine Cl.is (cm2 _) ?_); conv => whnf)))
                  all_goals exact Is.ent (by (refine FEnt.ent ?_; (repeat (first | exact FEnt.rfl | refine FEnt.drop ?_)); done)) (Is.tt ⟨hi, hb⟩)
                · have hst := lt_step h2 (fun h => h.2.2.elim e1 (fun h => h.elim e2 (fun h => h.elim e3 e4)))
                  have cm1 := fun L => Con.df e3 (hm1 L)
                  have cm2 := fun L => Con.df e4 (hm2 L)
                  clear hgx hgy e3 e4 hm1 hm2
                  simp only [cX] at e1 e2
                  conv => whnf
                  repeat' (first
                    | (first | ((with_reducible refine Br.tt ?_); conv => whnf) | ((with_reducible refine Br.dt ?_ ?_); (focus (first | assumption | omega)); conv => whnf))
                    | (refine Ld.at 0 rfl rfl ?_; conv => whnf))
                  conv => whnf
                  refine Dr.fr (id := 9) Tryz.tysOk rfl [(0, 0), (2, 0), (5, 0), (7, 0), (1, 1), (3, 0), (4, 1), (6, 1), (8, 0), (9, 1), (10, 2), (11, 2), (12, 5), (13, 5)] ([]) (ptc bb 28 (cfC C) :: L) (by kernel_rfl) (by (exact Ent.rfl)) ?_
                  conv => whnf
                  conv => whnf
                  repeat' (first
                    | (first | ((with_reducible refine Br.tt ?_); conv => whnf) | ((with_reducible refine Br.ff ?_); conv => whnf) | ((with_reducible refine Br.nf ?_); conv => whnf) | ((with_reducible refine Br.df ?_ ?_); (focus (first | assumption | omega)); conv => whnf))
                    | ((with_reducible refine Ar.i64 ?_ ?_); (focus omega); conv => whnf)
                    | ((with_reducible refine Nd.mk ?_ ?_); (focus (first | omega | rfl | assumption | (simp; done))); conv => whnf)
                    | ((with_reducible refine Nc.go' (fun _ => ?_)); conv => whnf)
                    | ((with_reducible refine Ix.ad ?_ ?_ ?_); (focus (exact Rd.ad (by assumption))); (focus (omega)); conv => whnf)
                    | (first | (refine Ld.at 0 rfl rfl ?_; conv => whnf) | (refine Ld.at 1 rfl rfl ?_; conv => whnf))
                    | (first | ((first | (with_reducible apply LdN.rdk) | apply LdN.rd); (focus ((repeat (first | assumption | apply Rd.cons)); done)); (focus rfl); (focus rfl); (focus (omega)); conv => whnf) | (refine LdN.at 0 rfl (by first | exact Nat.le_of_ble_eq_true rfl | (simp; done)) ?_; conv => whnf) | (refine LdN.at 1 rfl (by first | exact Nat.le_of_ble_eq_true rfl | (simp; done)) ?_; conv => whnf))
                    | (first | (refine FS.at 0 rfl (by first | exact Nat.le_of_ble_eq_true rfl | (simp; done)) rfl ?_; conv => whnf) | (refine FS.at 1 rfl (by first | exact Nat.le_of_ble_eq_true rfl | (simp; done)) rfl ?_; conv => whnf))
                    | (first | ((with_reducible refine Cl.is (cbx _) ?_); conv => whnf) | ((with_reducible refine Cl.is (cby _) ?_); conv => whnf) | ((with_reducible refine Cl.is (cm1 _) ?_); conv => whnf) | ((with_reducible refine Cl.is (cm2 _) ?_); conv => whnf)))
                  all_goals exact ⟨k + 1, by kernel_rfl, by (refine FEnt.ent ?_; (repeat (first | exact FEnt.rfl | (refine FEnt.at 2 rfl ?_; (try simp only [List.eraseIdx_cons_zero, List.eraseIdx_cons_succ, List.eraseIdx_zero, List.tail_cons])) | refine FEnt.drop ?_)); done), ⟨by omega, hst⟩, by omega⟩
        · have cbx := fun L => Con.df (fun h => h hgx : ¬ ¬ goodC (cX C (r - 1).toNat)) (hbx L)
          have cby := fun L => Con.dt hgy (hby L)
          have hst := lt_step h2 (fun h => hgy h.2.1)
          clear hgx hgy hbx hby
          conv => whnf
          repeat' (first
            | (first | ((with_reducible refine Br.tt ?_); conv => whnf) | ((with_reducible refine Br.dt ?_ ?_); (focus (first | assumption | omega)); conv => whnf))
            | (refine Ld.at 0 rfl rfl ?_; conv => whnf))
          conv => whnf
          refine Dr.fr (id := 9) Tryz.tysOk rfl [(0, 0), (2, 0), (5, 0), (7, 0), (1, 1), (3, 0), (4, 1), (6, 1), (8, 0), (9, 1), (10, 2), (11, 2), (12, 5), (13, 5)] ([]) (ptc bb 28 (cfC C) :: L) (by kernel_rfl) (by (exact Ent.rfl)) ?_
          conv => whnf
          conv => whnf
          repeat' (first
            | (first | ((with_reducible refine Br.tt ?_); conv => whnf) | ((with_reducible refine Br.ff ?_); conv => whnf) | ((with_reducible refine Br.nt ?_); conv => whnf) | ((with_reducible refine Br.nf ?_); conv => whnf))
            | ((with_reducible refine Ar.i64 ?_ ?_); (focus omega); conv => whnf)
            | ((with_reducible refine Nd.mk ?_ ?_); (focus (first | omega | rfl | assumption | (simp; done))); conv => whnf)
            | ((with_reducible refine Nc.go' (fun _ => ?_)); conv => whnf)
            | ((with_reducible refine Ix.ad ?_ ?_ ?_); (focus (exact Rd.ad (by assumption))); (focus (omega)); conv => whnf)
            | (refine Ld.at 0 rfl rfl ?_; conv => whnf)
            | (first | ((first | (with_reducible apply LdN.rdk) | apply LdN.rd); (focus ((repeat (first | assumption | apply Rd.cons)); done)); (focus rfl); (focus rfl); (focus (omega)); conv => whnf) | (refine LdN.at 0 rfl (by first | exact Nat.le_of_ble_eq_true rfl | (simp; done)) ?_; conv => whnf) | (refine LdN.at 1 rfl (by first | exact Nat.le_of_ble_eq_true rfl | (simp; done)) ?_; conv => whnf))
            | (first | (refine FS.at 0 rfl (by first | exact Nat.le_of_ble_eq_true rfl | (simp; done)) rfl ?_; conv => whnf) | (refine FS.at 1 rfl (by first | exact Nat.le_of_ble_eq_true rfl | (simp; done)) rfl ?_; conv => whnf))
            | (first | ((with_reducible refine Cl.is (cbx _) ?_); conv => whnf) | ((with_reducible refine Cl.is (cby _) ?_); conv => whnf)))
          all_goals exact ⟨k + 1, by kernel_rfl, by (refine FEnt.ent ?_; (repeat (first | exact FEnt.rfl | (refine FEnt.at 2 rfl ?_; (try simp only [List.eraseIdx_cons_zero, List.eraseIdx_cons_succ, List.eraseIdx_zero, List.tail_cons])) | refine FEnt.drop ?_)); done), ⟨by omega, hst⟩, by omega⟩
      · have cbx := fun L => Con.dt hgx (hbx L)
        have hst := lt_step h2 (fun h => hgx h.1)
        clear hgx hbx
        conv => whnf
        repeat' (first
          | (first | ((with_reducible refine Br.tt ?_); conv => whnf) | ((with_reducible refine Br.dt ?_ ?_); (focus (first | assumption | omega)); conv => whnf))
          | (refine Ld.at 0 rfl rfl ?_; conv => whnf))
        conv => whnf
        refine Dr.fr (id := 9) Tryz.tysOk rfl [(0, 0), (2, 0), (5, 0), (7, 0), (1, 1), (3, 0), (4, 1), (6, 1), (8, 0), (9, 1), (10, 2), (11, 2), (12, 5), (13, 5)] ([]) (ptc bb 28 (cfC C) :: L) (by kernel_rfl) (by (exact Ent.rfl)) ?_
        conv => whnf
        conv => whnf
        repeat' (first
          | (first | ((with_reducible refine Br.ff ?_); conv => whnf) | ((with_reducible refine Br.nt ?_); conv => whnf))
          | ((with_reducible refine Ar.i64 ?_ ?_); (focus omega); conv => whnf)
          | ((with_reducible refine Nd.mk ?_ ?_); (focus (first | omega | rfl | assumption | (simp; done))); conv => whnf)
          | ((with_reducible refine Nc.go' (fun _ => ?_)); conv => whnf)
          | ((with_reducible refine Ix.ad ?_ ?_ ?_); (focus (exact Rd.ad (by assumption))); (focus (omega)); conv => whnf)
          | (refine Ld.at 0 rfl rfl ?_; conv => whnf)
          | (first | ((first | (with_reducible apply LdN.rdk) | apply LdN.rd); (focus ((repeat (first | assumption | apply Rd.cons)); done)); (focus rfl); (focus rfl); (focus (omega)); conv => whnf) | (refine LdN.at 1 rfl (by first | exact Nat.le_of_ble_eq_true rfl | (simp; done)) ?_; conv => whnf))
          | (first | (refine FS.at 0 rfl (by first | exact Nat.le_of_ble_eq_true rfl | (simp; done)) rfl ?_; conv => whnf) | (refine FS.at 1 rfl (by first | exact Nat.le_of_ble_eq_true rfl | (simp; done)) rfl ?_; conv => whnf))
          | ((with_reducible refine Cl.is (cbx _) ?_); conv => whnf))
        all_goals exact ⟨k + 1, by kernel_rfl, by (refine FEnt.ent ?_; (repeat (first | exact FEnt.rfl | (refine FEnt.at 2 rfl ?_; (try simp only [List.eraseIdx_cons_zero, List.eraseIdx_cons_succ, List.eraseIdx_zero, List.tail_cons])) | refine FEnt.drop ?_)); done), ⟨by omega, hst⟩, by omega⟩
    · have hno : ¬ b3 C (r - 1).toNat := fun ⟨hg, j, hj, h⟩ => h2 j (by omega) ⟨hg, h⟩
      conv => whnf
      repeat' (first | ((with_reducible refine Br.ff ?_); conv => whnf) | ((with_reducible refine Br.df ?_ ?_); (focus (first | assumption | omega)); conv => whnf))
      all_goals exact Is.ent (by (refine FEnt.ent ?_; (repeat (first | exact FEnt.rfl | refine FEnt.drop ?_)); done)) (Is.ff (fun h => hno h.2))
  · refine con_of Tryz.tysOk Tryz.func19 rfl rfl ?_
    conv => whnf
    repeat' (first
      | (first | ((with_reducible refine Br.dt ?_ ?_); (focus (first | assumption | omega)); conv => whnf) | ((with_reducible refine Br.df ?_ ?_); (focus (first | assumption | omega)); conv => whnf))
      | ((with_reducible refine Ar.i64 ?_ ?_); (focus omega); conv => whnf)
      | ((with_reducible refine Nc.go' (fun _ => ?_)); conv => whnf))
    rename_i bb
    conv => whnf
    refine Lp.by Tryz.tysOk [8] (fun (k : Nat) => [.int .i64 k]) (fun k => ptc bb 28 (cfC C) :: L) (fun k => k = 0) (fun k => 0) (0) (by kernel_rfl) (by (exact Ent.rfl)) (rfl) ?_
    rintro k h1
    conv => whnf
    repeat (intro _; conv => whnf)
    subst h1
    conv => whnf
    repeat' (first
      | (first | ((with_reducible refine Br.tt ?_); conv => whnf) | ((with_reducible refine Br.ff ?_); conv => whnf) | ((with_reducible refine Br.df ?_ ?_); (focus (first | assumption | omega)); conv => whnf))
      | (refine Ld.at 0 rfl rfl ?_; conv => whnf)
      | ((with_reducible refine Br.ds (fun _ => ?_) (fun _ => ?_) ) <;> (conv => whnf)))
    all_goals first | exact Is.ent (by (refine FEnt.ent ?_; (repeat (first | exact FEnt.rfl | refine FEnt.drop ?_)); done)) (Is.ff (fun h => hi h.1)) | (exfalso; omega)
theorem Tryz.has5 (C : Cfg) (r : Int) (L : List HP) (hB : CfB C) (hF : frF C) (h0 : 0 ≤ r ∧ r ≤ 32) (hr : Rd slE L C.wa C.ws) : Con Tryz.prog 19 [cfV C, n64 5, n64 r] L (Is (.bool (decide (inR r C.ws.length ∧ b5 C (r - 1).toNat))) L) := by
  by_cases hi : inR r C.ws.length
  · refine con_of Tryz.tysOk Tryz.func19 rfl rfl ?_
    conv => whnf
    repeat' (first
      | (first | ((with_reducible refine Br.dt ?_ ?_); (focus (first | assumption | omega)); conv => whnf) | ((with_reducible refine Br.df ?_ ?_); (focus (first | assumption | omega)); conv => whnf))
      | ((with_reducible refine Ar.i64 ?_ ?_); (focus omega); conv => whnf)
      | ((with_reducible refine Nc.go' (fun _ => ?_)); conv => whnf))
    rename_i bb
    conv => whnf
    refine Lp.by Tryz.tysOk [11] (fun (k : Nat) => [.int .i64 k]) (fun k => ptc bb 28 (cfC C) :: L) (fun k => k ≤ (r - 1).toNat ∧ ∀ j, j < k → ¬ (meetW (cW C (r - 1).toNat) (cW C j) ∨ (cW C (r - 1).toNat).1 = (cW C j).1)) (fun k => (r - 1).toNat - k) (0) (by kernel_rfl) (by (exact Ent.rfl)) (⟨by omega, fun i h => by omega⟩) ?_
    rintro k ⟨h1, h2⟩
    conv => whnf
    repeat (intro _; conv => whnf)
    by_cases hk : k < (r - 1).toNat
    · by_cases ho : (cW C (r - 1).toNat).1 = (cW C k).1
      · have hb : b5 C (r - 1).toNat := ⟨k, hk, .inr ho⟩
        simp only [cW] at ho
        conv => whnf
        repeat' (first
          | (first | ((with_reducible refine Br.tt ?_); conv => whnf) | ((with_reducible refine Br.dt ?_ ?_); (focus (first | assumption | omega)); conv => whnf))
          | (refine Ld.at 0 rfl rfl ?_; conv => whnf))
        conv => whnf
        refine Dr.fr (id := 19) Tryz.tysOk rfl [(0, 0), (2, 0), (5, 0), (7, 0), (1, 1), (3, 0), (4, 1), (6, 1), (8, 0), (9, 1), (10, 2), (11, 2), (12, 5), (13, 5)] ([]) (ptc bb 28 (cfC C) :: L) (by kernel_rfl) (by (exact Ent.rfl)) ?_
        conv => whnf
        conv => whnf
        repeat' (first
          | (first | ((with_reducible refine Br.tt ?_); conv => whnf) | ((with_reducible refine Br.dt ?_ ?_); (focus (first | assumption | omega)); conv => whnf))
          | ((with_reducible refine Nd.mk ?_ ?_); (focus (first | omega | rfl | assumption | (simp; done))); conv => whnf)
          | ((with_reducible refine Nc.go' (fun _ => ?_)); conv => whnf)
          | ((with_reducible refine Ix.ad ?_ ?_ ?_); (focus (exact Rd.ad (by assumption))); (focus (omega)); conv => whnf)
          | (first | (refine Ld.at 0 rfl rfl ?_; conv => whnf) | (refine Ld.at 1 rfl rfl ?_; conv => whnf))
          | ((first | (with_reducible apply LdN.rdk) | apply LdN.rd); (focus ((repeat (first | assumption | apply Rd.cons)); done)); (focus rfl); (focus rfl); (focus (omega)); conv => whnf)
          | (first | (refine FS.at 0 rfl (by first | exact Nat.le_of_ble_eq_true rfl | (simp; done)) rfl ?_; conv => whnf) | (refine FS.at 1 rfl (by first | exact Nat.le_of_ble_eq_true rfl | (simp; done)) rfl ?_; conv => whnf)))
        all_goals exact Is.ent (by (refine FEnt.ent ?_; (repeat (first | exact FEnt.rfl | refine FEnt.drop ?_)); done)) (Is.tt ⟨hi, hb⟩)
      · have ho2 := ho
        simp only [cW] at ho
        by_cases hm : meetW (cW C (r - 1).toNat) (cW C k)
        · have hb : b5 C (r - 1).toNat := ⟨k, hk, .inl hm⟩
          have hmm := fun L => Con.dt hm (Tryz.refMeets _ _ _ _ L)
          conv => whnf
          repeat' (first
            | (first | ((with_reducible refine Br.tt ?_); conv => whnf) | ((with_reducible refine Br.dt ?_ ?_); (focus (first | assumption | omega)); conv => whnf))
            | (refine Ld.at 0 rfl rfl ?_; conv => whnf))
          conv => whnf
          refine Dr.fr (id := 19) Tryz.tysOk rfl [(0, 0), (2, 0), (5, 0), (7, 0), (1, 1), (3, 0), (4, 1), (6, 1), (8, 0), (9, 1), (10, 2), (11, 2), (12, 5), (13, 5)] ([]) (ptc bb 28 (cfC C) :: L) (by kernel_rfl) (by (exact Ent.rfl)) ?_
          conv => whnf
          conv => whnf
          repeat' (first
            | (first | ((with_reducible refine Br.tt ?_); conv => whnf) | ((with_reducible refine Br.ff ?_); conv => whnf) | ((with_reducible refine Br.df ?_ ?_); (focus (first | assumption | omega)); conv => whnf))
            | ((with_reducible refine Nd.mk ?_ ?_); (focus (first | omega | rfl | assumption | (simp; done))); conv => whnf)
            | ((with_reducible refine Nc.go' (fun _ => ?_)); conv => whnf)
            | ((with_reducible refine Ix.ad ?_ ?_ ?_); (focus (exact Rd.ad (by assumption))); (focus (omega)); conv => whnf)
            | (first | (refine Ld.at 0 rfl rfl ?_; conv => whnf) | (refine Ld.at 1 rfl rfl ?_; conv => whnf))
            | ((first | (with_reducible apply LdN.rdk) | apply LdN.rd); (focus ((repeat (first | assumption | apply Rd.cons)); done)); (focus rfl); (focus rfl); (focus (omega)); conv => whnf)
            | (first | (refine FS.at 0 rfl (by first | exact Nat.le_of_ble_eq_true rfl | (simp; done)) rfl ?_; conv => whnf) | (refine FS.at 1 rfl (by first | exact Nat.le_of_ble_eq_true rfl | (simp; done)) rfl ?_; conv => whnf))
            | ((with_reducible refine Cl.is (hmm _) ?_); conv => whnf))
          all_goals exact Is.ent (by (refine FEnt.ent ?_; (repeat (first | exact FEnt.rfl | refine FEnt.drop ?_)); done)) (Is.tt ⟨hi, hb⟩)
        · have hmm := fun L => Con.df hm (Tryz.refMeets _ _ _ _ L)
          conv => whnf
          repeat' (first
            | (first | ((with_reducible refine Br.tt ?_); conv => whnf) | ((with_reducible refine Br.dt ?_ ?_); (focus (first | assumption | omega)); conv => whnf))
            | (refine Ld.at 0 rfl rfl ?_; conv => whnf))
          conv => whnf
          refine Dr.fr (id := 19) Tryz.tysOk rfl [(0, 0), (2, 0), (5, 0), (7, 0), (1, 1), (3, 0), (4, 1), (6, 1), (8, 0), (9, 1), (10, 2), (11, 2), (12, 5), (13, 5)] ([]) (ptc bb 28 (cfC C) :: L) (by kernel_rfl) (by (exact Ent.rfl)) ?_
          conv => whnf
          conv => whnf
          repeat' (first
            | (first | ((with_reducible refine Br.ff ?_); conv => whnf) | ((with_reducible refine Br.df ?_ ?_); (focus (first | assumption | omega)); conv => whnf))
            | ((with_reducible refine Ar.i64 ?_ ?_); (focus omega); conv => whnf)
            | ((with_reducible refine Nd.mk ?_ ?_); (focus (first | omega | rfl | assumption | (simp; done))); conv => whnf)
            | ((with_reducible refine Nc.go' (fun _ => ?_)); conv => whnf)
            | ((with_reducible refine Ix.ad ?_ ?_ ?_); (focus (exact Rd.ad (by assumption))); (focus (omega)); conv => whnf)
            | (first | (refine Ld.at 0 rfl rfl ?_; conv => whnf) | (refine Ld.at 1 rfl rfl ?_; conv => whnf))
            | ((first | (with_reducible apply LdN.rdk) | apply LdN.rd); (focus ((repeat (first | assumption | apply Rd.cons)); done)); (focus rfl); (focus rfl); (focus (omega)); conv => whnf)
            | (first | (refine FS.at 0 rfl (by first | exact Nat.le_of_ble_eq_true rfl | (simp; done)) rfl ?_; conv => whnf) | (refine FS.at 1 rfl (by first | exact Nat.le_of_ble_eq_true rfl | (simp; done)) rfl ?_; conv => whnf))
            | ((with_reducible refine Cl.is (hmm _) ?_); conv => whnf))
          all_goals exact ⟨k + 1, by kernel_rfl, by (refine FEnt.ent ?_; (repeat (first | exact FEnt.rfl | (refine FEnt.at 2 rfl ?_; (try simp only [List.eraseIdx_cons_zero, List.eraseIdx_cons_succ, List.eraseIdx_zero, List.tail_cons])) | refine FEnt.drop ?_)); done), ⟨by omega, lt_step h2 (fun h => h.elim hm ho2)⟩, by omega⟩
    · have hno : ¬ b5 C (r - 1).toNat := fun ⟨j, hj, h⟩ => h2 j (by omega) h
      conv => whnf
      repeat' (first | ((with_reducible refine Br.ff ?_); conv => whnf) | ((with_reducible refine Br.df ?_ ?_); (focus (first | assumption | omega)); conv => whnf))
      all_goals exact Is.ent (by (refine FEnt.ent ?_; (repeat (first | exact FEnt.rfl | refine FEnt.drop ?_)); done)) (Is.ff (fun h => hno h.2))
  · refine con_of Tryz.tysOk Tryz.func19 rfl rfl ?_
    conv => whnf
    repeat' (first
      | (first | ((with_reducible refine Br.dt ?_ ?_); (focus (first | assumption | omega)); conv => whnf) | ((with_reducible refine Br.df ?_ ?_); (focus (first | assumption | omega)); conv => whnf))
      | ((with_reducible refine Ar.i64 ?_ ?_); (focus omega); conv => whnf)
      | ((with_reducible refine Nc.go' (fun _ => ?_)); conv => whnf))
    rename_i bb
    conv => whnf
    refine Lp.by Tryz.tysOk [11] (fun (k : Nat) => [.int .i64 k]) (fun k => ptc bb 28 (cfC C) :: L) (fun k => k = 0) (fun k => 0) (0) (by kernel_rfl) (by (exact Ent.rfl)) (rfl) ?_
    rintro k h1
    conv => whnf
    repeat (intro _; conv => whnf)
    subst h1
    conv => whnf
    repeat' (first
      | (first | ((with_reducible refine Br.tt ?_); conv => whnf) | ((with_reducible refine Br.ff ?_); conv => whnf) | ((with_reducible refine Br.df ?_ ?_); (focus (first | assumption | omega)); conv => whnf))
      | (refine Ld.at 0 rfl rfl ?_; conv => whnf)
      | ((with_reducible refine Br.ds (fun _ => ?_) (fun _ => ?_) ) <;> (conv => whnf)))
    all_goals first | exact Is.ent (by (refine FEnt.ent ?_; (repeat (first | exact FEnt.rfl | refine FEnt.drop ?_)); done)) (Is.ff (fun h => hi h.1)) | (exfalso; omega)
theorem Tryz.has9 (C : Cfg) (r : Int) (L : List HP) (hB : CfB C) (hF : frF C) (h0 : 0 ≤ r ∧ r ≤ 32) (hr : Rd slE L C.sa C.ss) : Con Tryz.prog 19 [cfV C, n64 9, n64 r] L (Is (.bool (decide (inR r C.ss.length ∧ b9 C (r - 1).toNat))) L) := by
  by_cases hi : inR r C.ss.length
  · refine con_of Tryz.tysOk Tryz.func19 rfl rfl ?_
    conv => whnf
    repeat' (first
      | (first | ((with_reducible refine Br.dt ?_ ?_); (focus (first | assumption | omega)); conv => whnf) | ((with_reducible refine Br.df ?_ ?_); (focus (first | assumption | omega)); conv => whnf))
      | ((with_reducible refine Ar.i64 ?_ ?_); (focus omega); conv => whnf)
      | ((with_reducible refine Nc.go' (fun _ => ?_)); conv => whnf))
    rename_i bb
    conv => whnf
    refine Lp.by Tryz.tysOk [16] (fun (k : Nat) => [.int .i64 k]) (fun k => ptc bb 28 (cfC C) :: L) (fun k => k ≤ (r - 1).toNat ∧ ∀ j, j < k → ¬ meetW (cS C (r - 1).toNat) (cS C j)) (fun k => (r - 1).toNat - k) (0) (by kernel_rfl) (by (exact Ent.rfl)) (⟨by omega, fun i h => by omega⟩) ?_
    rintro k ⟨h1, h2⟩
    conv => whnf
    repeat (intro _; conv => whnf)
    by_cases hk : k < (r - 1).toNat
    · by_cases hm : meetW (cS C (r - 1).toNat) (cS C k)
      · have hb : b9 C (r - 1).toNat := ⟨k, hk, hm⟩
        have hmm := fun L => Con.dt hm (Tryz.refMeets _ _ _ _ L)
        conv => whnf
        repeat' (first
          | (first | ((with_reducible refine Br.tt ?_); conv => whnf) | ((with_reducible refine Br.dt ?_ ?_); (focus (first | assumption | omega)); conv => whnf))
          | (refine Ld.at 0 rfl rfl ?_; conv => whnf))
        conv => whnf
        refine Dr.fr (id := 43) Tryz.tysOk rfl [(0, 0), (2, 0), (5, 0), (7, 0), (1, 1), (3, 0), (4, 1), (6, 1), (8, 0), (9, 1), (10, 2), (11, 2), (12, 5), (13, 5)] ([]) (ptc bb 28 (cfC C) :: L) (by kernel_rfl) (by (exact Ent.rfl)) ?_
        conv => whnf
        conv => whnf
        repeat' (first
          | ((with_reducible refine Br.tt ?_); conv => whnf)
          | ((with_reducible refine Nd.mk ?_ ?_); (focus (first | omega | rfl | assumption | (simp; done))); conv => whnf)
          | ((with_reducible refine Nc.go' (fun _ => ?_)); conv => whnf)
          | ((with_reducible refine Ix.ad ?_ ?_ ?_); (focus (exact Rd.ad (by assumption))); (focus (omega)); conv => whnf)
          | (first | (refine Ld.at 0 rfl rfl ?_; conv => whnf) | (refine Ld.at 1 rfl rfl ?_; conv => whnf))
          | ((first | (with_reducible apply LdN.rdk) | apply LdN.rd); (focus ((repeat (first | assumption | apply Rd.cons)); done)); (focus rfl); (focus rfl); (focus (omega)); conv => whnf)
          | (first | (refine FS.at 0 rfl (by first | exact Nat.le_of_ble_eq_true rfl | (simp; done)) rfl ?_; conv => whnf) | (refine FS.at 1 rfl (by first | exact Nat.le_of_ble_eq_true rfl | (simp; done)) rfl ?_; conv => whnf))
          | ((with_reducible refine Cl.is (hmm _) ?_); conv => whnf))
        all_goals exact Is.ent (by (refine FEnt.ent ?_; (repeat (first | exact FEnt.rfl | refine FEnt.drop ?_)); done)) (Is.tt ⟨hi, hb⟩)
      · have hmm := fun L => Con.df hm (Tryz.refMeets _ _ _ _ L)
        conv => whnf
        repeat' (first
          | (first | ((with_reducible refine Br.tt ?_); conv => whnf) | ((with_reducible refine Br.dt ?_ ?_); (focus (first | assumption | omega)); conv => whnf))
          | (refine Ld.at 0 rfl rfl ?_; conv => whnf))
        conv => whnf
        refine Dr.fr (id := 43) Tryz.tysOk rfl [(0, 0), (2, 0), (5, 0), (7, 0), (1, 1), (3, 0), (4, 1), (6, 1), (8, 0), (9, 1), (10, 2), (11, 2), (12, 5), (13, 5)] ([]) (ptc bb 28 (cfC C) :: L) (by kernel_rfl) (by (exact Ent.rfl)) ?_
        conv => whnf
        conv => whnf
        repeat' (first
          | ((with_reducible refine Br.ff ?_); conv => whnf)
          | ((with_reducible refine Ar.i64 ?_ ?_); (focus omega); conv => whnf)
          | ((with_reducible refine Nd.mk ?_ ?_); (focus (first | omega | rfl | assumption | (simp; done))); conv => whnf)
          | ((with_reducible refine Nc.go' (fun _ => ?_)); conv => whnf)
          | ((with_reducible refine Ix.ad ?_ ?_ ?_); (focus (exact Rd.ad (by assumption))); (focus (omega)); conv => whnf)
          | (first | (refine Ld.at 0 rfl rfl ?_; conv => whnf) | (refine Ld.at 1 rfl rfl ?_; conv => whnf))
          | ((first | (with_reducible apply LdN.rdk) | apply LdN.rd); (focus ((repeat (first | assumption | apply Rd.cons)); done)); (focus rfl); (focus rfl); (focus (omega)); conv => whnf)
          | (first | (refine FS.at 0 rfl (by first | exact Nat.le_of_ble_eq_true rfl | (simp; done)) rfl ?_; conv => whnf) | (refine FS.at 1 rfl (by first | exact Nat.le_of_ble_eq_true rfl | (simp; done)) rfl ?_; conv => whnf))
          | ((with_reducible refine Cl.is (hmm _) ?_); conv => whnf))
        all_goals exact ⟨k + 1, by kernel_rfl, by (refine FEnt.ent ?_; (repeat (first | exact FEnt.rfl | (refine FEnt.at 2 rfl ?_; (try simp only [List.eraseIdx_cons_zero, List.eraseIdx_cons_succ, List.eraseIdx_zero, List.tail_cons])) | refine FEnt.drop ?_)); done), ⟨by omega, lt_step h2 hm⟩, by omega⟩
    · have hno : ¬ b9 C (r - 1).toNat := fun ⟨j, hj, h⟩ => h2 j (by omega) h
      conv => whnf
      repeat' (first | ((with_reducible refine Br.ff ?_); conv => whnf) | ((with_reducible refine Br.df ?_ ?_); (focus (first | assumption | omega)); conv => whnf))
      all_goals exact Is.ent (by (refine FEnt.ent ?_; (repeat (first | exact FEnt.rfl | refine FEnt.drop ?_)); done)) (Is.ff (fun h => hno h.2))
  · refine con_of Tryz.tysOk Tryz.func19 rfl rfl ?_
    conv => whnf
    repeat' (first
      | (first | ((with_reducible refine Br.dt ?_ ?_); (focus (first | assumption | omega)); conv => whnf) | ((with_reducible refine Br.df ?_ ?_); (focus (first | assumption | omega)); conv => whnf))
      | ((with_reducible refine Ar.i64 ?_ ?_); (focus omega); conv => whnf)
      | ((with_reducible refine Nc.go' (fun _ => ?_)); conv => whnf))
    rename_i bb
    conv => whnf
    refine Lp.by Tryz.tysOk [16] (fun (k : Nat) => [.int .i64 k]) (fun k => ptc bb 28 (cfC C) :: L) (fun k => k = 0) (fun k => 0) (0) (by kernel_rfl) (by (exact Ent.rfl)) (rfl) ?_
    rintro k h1
    conv => whnf
    repeat (intro _; conv => whnf)
    subst h1
    conv => whnf
    repeat' (first
      | (first | ((with_reducible refine Br.tt ?_); conv => whnf) | ((with_reducible refine Br.ff ?_); conv => whnf) | ((with_reducible refine Br.df ?_ ?_); (focus (first | assumption | omega)); conv => whnf))
      | (refine Ld.at 0 rfl rfl ?_; conv => whnf)
      | ((with_reducible refine Br.ds (fun _ => ?_) (fun _ => ?_) ) <;> (conv => whnf)))
    all_goals first | exact Is.ent (by (refine FEnt.ent ?_; (repeat (first | exact FEnt.rfl | refine FEnt.drop ?_)); done)) (Is.ff (fun h => hi h.1)) | (exfalso; omega)
/-! all of them -/
def hasP (C : Cfg) (w r : Int) : Prop := (w = 2 ∧ inR r C.xs.length ∧ b2 C (r - 1).toNat) ∨ (w = 3 ∧ inR r C.xs.length ∧ b3 C (r - 1).toNat) ∨ (w = 4 ∧ inR r C.ws.length ∧ b4 C (r - 1).toNat) ∨
  (w = 5 ∧ inR r C.ws.length ∧ b5 C (r - 1).toNat) ∨ (w = 6 ∧ r < C.xs.length + 1 ∧ b6 C r.toNat) ∨ (w = 7 ∧ r = 0 ∧ b7 C) ∨ (w = 8 ∧ inR r C.ss.length ∧ b8 C (r - 1).toNat) ∨
  (w = 9 ∧ inR r C.ss.length ∧ b9 C (r - 1).toNat) ∨ (w = 10 ∧ inR r C.xs.length ∧ b10 C (r - 1).toNat)
theorem Con.iff {f : FuncId} {P : Program} {args : List Value} {L M : List HP} {p q : Prop} [Decidable p] [Decidable q] (h : p ↔ q) (c : Con P f args L (Is (.bool (decide p)) M)) : Con P f args L (Is (.bool (decide q)) M) := by
  rwa [decide_eq_decide.2 h] at c
theorem Tryz.refHas (C : Cfg) (w r : Int) (L : List HP) (hB : CfB C) (hF : frF C) (hw : 2 ≤ w ∧ w ≤ 10) (h0 : 0 ≤ r ∧ r ≤ 32) (h1 : Rd slE L C.wa C.ws) (h2 : Rd slE L C.sa C.ss) (h3 : Rd clE L C.ca C.xs) :
    Con Tryz.prog 19 [cfV C, n64 w, n64 r] L (Is (.bool (decide (hasP C w r))) L) := by
  have hc : w = 2 ∨ w = 3 ∨ w = 4 ∨ w = 5 ∨ w = 6 ∨ w = 7 ∨ w = 8 ∨ w = 9 ∨ w = 10 := by omega
  rcases hc with rfl | rfl | rfl | rfl | rfl | rfl | rfl | rfl | rfl
  · exact Con.iff (by simp [hasP]) (Tryz.has2 C r L hB hF h0 h3)
  · exact Con.iff (by simp [hasP]) (Tryz.has3 C r L hB hF h0 h3)
  · exact Con.iff (by simp [hasP]) (Tryz.has4 C r L hB hF h0 h1)
  · exact Con.iff (by simp [hasP]) (Tryz.has5 C r L hB hF h0 h1)
  · exact Con.iff (by simp [hasP]) (Tryz.has6 C r L hB hF h0 h1)
  · exact Con.iff (by simp [hasP]) (Tryz.has7 C r L hB hF h0 h1)
  · exact Con.iff (by simp [hasP]) (Tryz.has8 C r L hB hF h0 h2)
  · exact Con.iff (by simp [hasP]) (Tryz.has9 C r L hB hF h0 h2)
  · exact Con.iff (by simp [hasP]) (Tryz.has10 C r L hB hF h0 h3 h2)
theorem right_has {C : Cfg} (hF : frF C) : Right C ↔ ∀ w r : Int, 2 ≤ w → w ≤ 10 → 0 ≤ r → r ≤ 32 → ¬ hasP C w r := by
  have e : ∀ i : Nat, ((i : Int) + 1 - 1).toNat = i := fun i => by omega
  constructor
  · rintro ⟨-, h2, h3, h4, h5, h6, h7, h8, h9, h10⟩ w r - - hr - hp
    rcases hp with ⟨-, hi, hb⟩ | ⟨-, hi, hb⟩ | ⟨-, hi, hb⟩ | ⟨-, hi, hb⟩ | ⟨-, hi, hb⟩ | ⟨-, hi, hb⟩ | ⟨-, hi, hb⟩ | ⟨-, hi, hb⟩ | ⟨-, hi, hb⟩
    · exact h2 _ (by omega) hb
    · exact h3 _ (by omega) hb
    · exact h4 _ (by omega) hb
    · exact h5 _ (by omega) hb
    · exact h6 _ (by omega) hb
    · exact h7 hb
    · exact h8 _ (by omega) hb
    · exact h9 _ (by omega) hb
    · exact h10 _ (by omega) hb
  · intro h
    refine ⟨hF, fun i hi hb => h 2 (i + 1) (by omega) (by omega) (by omega) (by omega) (.inl ⟨rfl, ⟨by omega, by omega⟩, by rw [e]; exact hb⟩), fun i hi hb => h 3 (i + 1) (by omega) (by omega) (by omega) (by omega) (.inr (.inl ⟨rfl, ⟨by omega, by omega⟩, by rw [e]; exact hb⟩)),
      fun i hi hb => h 4 (i + 1) (by omega) (by omega) (by omega) (by omega) (.inr (.inr (.inl ⟨rfl, ⟨by omega, by omega⟩, by rw [e]; exact hb⟩))), fun i hi hb => h 5 (i + 1) (by omega) (by omega) (by omega) (by omega) (.inr (.inr (.inr (.inl ⟨rfl, ⟨by omega, by omega⟩, by rw [e]; exact hb⟩)))),
      fun o ho hb => h 6 o (by omega) (by omega) (by omega) (by omega) (.inr (.inr (.inr (.inr (.inl ⟨rfl, by omega, by rw [Int.toNat_natCast]; exact hb⟩))))), fun hb => h 7 0 (by omega) (by omega) (by omega) (by omega) (.inr (.inr (.inr (.inr (.inr (.inl ⟨rfl, rfl, hb⟩)))))),
      fun i hi hb => h 8 (i + 1) (by omega) (by omega) (by omega) (by omega) (.inr (.inr (.inr (.inr (.inr (.inr (.inl ⟨rfl, ⟨by omega, by omega⟩, by rw [e]; exact hb⟩))))))), fun i hi hb => h 9 (i + 1) (by omega) (by omega) (by omega) (by omega) (.inr (.inr (.inr (.inr (.inr (.inr (.inr (.inl ⟨rfl, ⟨by omega, by omega⟩, by rw [e]; exact hb⟩)))))))),
      fun i hi hb => h 10 (i + 1) (by omega) (by omega) (by omega) (by omega) (.inr (.inr (.inr (.inr (.inr (.inr (.inr (.inr ⟨rfl, ⟨by omega, by omega⟩, by rw [e]; exact hb⟩))))))))⟩
abbrev Fl' := Option Addr × Nat × List Sp
theorem Tryz.refFaults (C : Cfg) (L : List HP) (hB : CfB C) (hw : Rd slE L C.wa C.ws) (hs : Rd slE L C.sa C.ss) (hc : Rd clE L C.ca C.xs) :
    Con Tryz.prog 7 [cfV C] L (Exs (fun y : Fl' => .slice y.1 y.2.2.length y.2.1) (fun _ => L) (fun y => y.2.2.length ≤ 1000 ∧ (y.2.2 = [] ↔ Right C))) := by
  by_cases hF : frF C
  · have hh := fun w r L hw h0 h1 h2 h3 => Tryz.refHas C w r L hB hF hw h0 h1 h2 h3
    rw [right_has hF]
    refine con_of Tryz.tysOk Tryz.func7 rfl rfl ?_
    conv => whnf
    repeat' (first
      | ((with_reducible refine Br.nt ?_); conv => whnf)
      | ((with_reducible refine Nc.go' (fun _ => ?_)); conv => whnf)
      | (refine LdN.at 0 rfl (by first | exact Nat.le_of_ble_eq_true rfl | (simp; done)) ?_; conv => whnf)
      | ((with_reducible refine Cl.is (Con.dt hF (Tryz.refFrame _ _)) ?_); conv => whnf))
    rename_i b1 b3
    conv => whnf
    refine Lp.by3 Tryz.tysOk [4, 3] (fun (w : Int) (ys : List Sp) (x : Option Addr × Nat) => [n64 w, .slice x.1 ys.length x.2]) (fun w ys x => own spE 61 x.1 x.2 ys :: ptc b1 28 (cfC C) :: L) (fun w ys x => (2 ≤ w ∧ w ≤ 11) ∧ (ys.length : Int) ≤ 33 * (w - 2) ∧ (ys = [] ↔ ∀ w' r : Int, 2 ≤ w' → w' < w → 0 ≤ r → r ≤ 32 → ¬ hasP C w' r) ∧ ys.length ≤ x.2 ∧ Ad x.1 ys.length) (fun w ys x => (11 - w).toNat) (2) (([] : List Sp)) (((some ⟨b3, 0, none⟩, 0) : Option Addr × Nat)) (by kernel_rfl) (by (refine FEnt.ent ?_; (repeat (first | exact FEnt.rfl | (refine FEnt.own0 0 rfl ?_; (try simp only [List.eraseIdx_cons_zero, List.eraseIdx_cons_succ, List.eraseIdx_zero, List.tail_cons])))); done)) (⟨by omega, by simp, ⟨fun _ w' r h1 h2 => by omega, fun _ => rfl⟩, Nat.le_refl _, fun _ => rfl⟩) ?_
    rintro w ys ⟨a2, c2⟩ ⟨h1, h2, h3, h4, h5⟩
    conv => whnf
    repeat (intro _; conv => whnf)
    dsimp only at h4 h5
    by_cases hk : w ≤ 10
    · conv => whnf
      repeat' ((with_reducible refine Br.dt ?_ ?_); (focus (first | assumption | omega)); conv => whnf)
      conv => whnf
      refine Lp.by3 Tryz.tysOk [5, 3] (fun (r : Int) (zs : List Sp) (x : Option Addr × Nat) => [n64 r, .slice x.1 zs.length x.2]) (fun r zs x => own spE 61 x.1 x.2 zs :: ptc b1 28 (cfC C) :: L) (fun r zs x => (0 ≤ r ∧ r ≤ 33) ∧ (zs.length : Int) ≤ 33 * (w - 2) + r ∧ (zs = [] ↔ ys = [] ∧ ∀ r' : Int, 0 ≤ r' → r' < r → ¬ hasP C w r') ∧ zs.length ≤ x.2 ∧ Ad x.1 zs.length) (fun r zs x => (33 - r).toNat) (0) (ys) (((a2, c2) : Option Addr × Nat)) (by kernel_rfl) (by (exact Ent.rfl)) (⟨by omega, by omega, ⟨fun h => ⟨h, fun r' h1 h2 => by omega⟩, fun h => h.1⟩, h4, h5⟩) ?_
      rintro r zs ⟨a3, c3⟩ ⟨g1, g2, g3, g4, g5⟩
      conv => whnf
      repeat (intro _; conv => whnf)
      dsimp only at g4 g5
      by_cases hr : r ≤ 32
      · by_cases hp : hasP C w r
        · conv => whnf
          repeat' (first
            | (first | ((with_reducible refine Br.tt ?_); conv => whnf) | ((with_reducible refine Br.dt ?_ ?_); (focus (first | assumption | omega)); conv => whnf))
            | ((with_reducible refine Ar.i64 ?_ ?_); (focus omega); conv => whnf)
            | ((with_reducible refine Nc.go' (fun _ => ?_)); conv => whnf)
            | (refine LdN.at 1 rfl (by first | exact Nat.le_of_ble_eq_true rfl | (simp; done)) ?_; conv => whnf)
            | ((with_reducible refine Cl.is (Con.dt hp (hh w r _ ⟨h1.1, hk⟩ ⟨g1.1, hr⟩ (by ((repeat (first | assumption | apply Rd.cons)); done)) (by ((repeat (first | assumption | apply Rd.cons)); done)) (by ((repeat (first | assumption | apply Rd.cons)); done)))) ?_); conv => whnf)
            | ((with_reducible refine (?_ : Sm _ (Builtin.append_ _ _ _) _ _)); (((with_reducible apply (Sm.appAt (E := spE) (et := 61) Tryz.tysOk 1)); (focus rfl)); (rotate_left; (focus (exact Rd.ptc 0 rfl [(_, _)] rfl)); rotate_right; (focus rfl)); (focus rfl); (focus rfl); (focus rfl); (focus rfl); (focus rfl); (focus rfl); (focus ((simp only [List.length_append, List.length_cons, List.length_nil]); omega)); (intro _ _ _ _); conv => whnf)))
          all_goals (rename_i a5 c5 hc5 had5; exact ⟨r + 1, zs ++ [(r, w)], (a5, c5), by kernel_rfl, by (refine FEnt.ent ?_; (repeat (first | exact FEnt.rfl | (refine FEnt.at 0 rfl ?_; (try simp only [List.eraseIdx_cons_zero, List.eraseIdx_cons_succ, List.eraseIdx_zero, List.tail_cons])) | (refine FEnt.at 1 rfl ?_; (try simp only [List.eraseIdx_cons_zero, List.eraseIdx_cons_succ, List.eraseIdx_zero, List.tail_cons])) | refine FEnt.drop ?_)); done), ⟨by omega, by simp only [List.length_append, List.length_cons, List.length_nil]; omega, ⟨fun h => absurd h (by simp), fun h => absurd hp (h.2 r g1.1 (by omega))⟩, hc5, had5⟩, by omega⟩)
        · conv => whnf
          repeat' (first
            | (first | ((with_reducible refine Br.ff ?_); conv => whnf) | ((with_reducible refine Br.dt ?_ ?_); (focus (first | assumption | omega)); conv => whnf))
            | ((with_reducible refine Ar.i64 ?_ ?_); (focus omega); conv => whnf)
            | (refine LdN.at 1 rfl (by first | exact Nat.le_of_ble_eq_true rfl | (simp; done)) ?_; conv => whnf)
            | ((with_reducible refine Cl.is (Con.df hp (hh w r _ ⟨h1.1, hk⟩ ⟨g1.1, hr⟩ (by ((repeat (first | assumption | apply Rd.cons)); done)) (by ((repeat (first | assumption | apply Rd.cons)); done)) (by ((repeat (first | assumption | apply Rd.cons)); done)))) ?_); conv => whnf))
          all_goals exact ⟨r + 1, zs, (a3, c3), by kernel_rfl, by (exact Ent.rfl), ⟨by omega, by omega, ⟨fun h => ⟨(g3.1 h).1, fun r' h1 h2 => if e : r' = r then by rw [e]; exact hp else (g3.1 h).2 r' h1 (by omega)⟩, fun h => g3.2 ⟨h.1, fun r' h1 h2 => h.2 r' h1 (by omega)⟩⟩, g4, g5⟩, by omega⟩
      · conv => whnf
        repeat' (first
          | ((with_reducible refine Br.df ?_ ?_); (focus (first | assumption | omega)); conv => whnf)
          | ((with_reducible refine Ar.i64 ?_ ?_); (focus omega); conv => whnf))
        all_goals exact ⟨w + 1, zs, (a3, c3), by kernel_rfl, by (exact Ent.rfl), ⟨by omega, by omega, ⟨fun h w' r' a1 a2 a3 a4 => if e : w' = w then by rw [e]; exact (g3.1 h).2 r' a3 (by omega) else h3.1 (g3.1 h).1 w' r' a1 (by omega) a3 a4, fun h => g3.2 ⟨h3.2 fun w' r' a1 a2 a3 a4 => h w' r' a1 (by omega) a3 a4, fun r' a1 a2 => h w r' h1.1 (by omega) a1 (by omega)⟩⟩, g4, g5⟩, by omega⟩
    · conv => whnf
      repeat' ((with_reducible refine Br.df ?_ ?_); (focus (first | assumption | omega)); conv => whnf)
      all_goals exact Exs.of ((a2, c2, ys) : Fl') (by (try dsimp only); (refine FEnt.ent ?_; (repeat (first | exact FEnt.rfl | refine FEnt.drop ?_)); done)) ⟨by (try dsimp only); omega, by (try dsimp only); rw [h3]; exact ⟨fun h w' r a1 a2 a3 a4 => h w' r a1 (by omega) a3 a4, fun h w' r a1 a2 a3 a4 => h w' r a1 (by omega) a3 a4⟩⟩ rfl
  · refine con_of Tryz.tysOk Tryz.func7 rfl rfl ?_
    conv => whnf
    repeat' (first
      | ((with_reducible refine Br.nf ?_); conv => whnf)
      | ((with_reducible refine Nc.go' (fun _ => ?_)); conv => whnf)
      | (refine LdN.at 0 rfl (by first | exact Nat.le_of_ble_eq_true rfl | (simp; done)) ?_; conv => whnf)
      | ((with_reducible refine Cl.is (Con.df hF (Tryz.refFrame _ _)) ?_); conv => whnf))
    all_goals exact Exs.of ((some ⟨_, 0, none⟩, 1, [(0, 1)]) : Fl') (by (try dsimp only); (refine FEnt.ent ?_; (repeat (first | exact FEnt.rfl | refine FEnt.drop ?_)); done)) ⟨by show 1 ≤ 1000; omega, ⟨fun h => absurd h (by simp), fun h => absurd h.f hF⟩⟩ rfl
end Go.Proofs
