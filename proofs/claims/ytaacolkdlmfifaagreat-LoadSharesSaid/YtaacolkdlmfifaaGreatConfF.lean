/- A machine's tables: what is wrong, by the document: contracts. -/
import Derived.Test.YtaacolkdlmfifaaGreatConfB
set_option linter.all false
namespace Go.Proofs
open Go.Eng
open Classical
set_option linter.unusedVariables false
set_option maxRecDepth 100000
set_option maxHeartbeats 2000000
abbrev inR (r : Int) (n : Nat) : Prop := 0 ≤ r - 1 ∧ r - 1 < n
theorem Tryz.has2 (C : Cfg) (r : Int) (L : List HP) (hB : CfB C) (hF : frF C) (h0 : 0 ≤ r ∧ r ≤ 32) (hr : Rd clE L C.ca C.xs) : Con Tryz.prog 25 [cfV C, n64 2, n64 r] L (Is (.bool (decide (inR r C.xs.length ∧ b2 C (r - 1).toNat))) L) := by
  by_cases hi : inR r C.xs.length
  · have hbd := fun L => Tryz.refBad (cX C (r - 1).toNat) L (hB.c _ (getD_mem (by omega)))
    refine con_of Tryz.tysOk Tryz.func25 rfl rfl ?_
    conv => whnf
    repeat' (first
      | (first | ((with_reducible refine Br.tt ?_); conv => whnf) | ((with_reducible refine Br.dt ?_ ?_); (focus (first | assumption | omega)); conv => whnf))
      | ((with_reducible refine Ar.i64 ?_ ?_); (focus omega); conv => whnf)
      | ((with_reducible refine Nc.go' (fun _ => ?_)); conv => whnf)
      | ((with_reducible refine Ix.ad ?_ ?_ ?_); (focus (exact Rd.ad (by assumption))); (focus (omega)); conv => whnf)
      | (refine Ld.at 0 rfl rfl ?_; conv => whnf)
      | ((apply LdN.rd); (focus ((repeat (first | assumption | apply Rd.cons)); done)); (focus rfl); (focus rfl); (focus (omega)); conv => whnf)
      | ((with_reducible refine Cl.is (hbd _) ?_); conv => whnf))
    all_goals exact Is.ent (by (refine FEnt.ent ?_; (repeat (first | exact FEnt.rfl | refine FEnt.drop ?_)); done)) (Is.dec ⟨fun h => ⟨hi, h⟩, fun h => h.2⟩)
  · refine con_of Tryz.tysOk Tryz.func25 rfl rfl ?_
    conv => whnf
    repeat' (first
      | (first | ((with_reducible refine Br.tt ?_); conv => whnf) | ((with_reducible refine Br.ff ?_); conv => whnf) | ((with_reducible refine Br.dt ?_ ?_); (focus (first | assumption | omega)); conv => whnf) | ((with_reducible refine Br.df ?_ ?_); (focus (first | assumption | omega)); conv => whnf))
      | ((with_reducible refine Ar.i64 ?_ ?_); (focus omega); conv => whnf)
      | ((with_reducible refine Nc.go' (fun _ => ?_)); conv => whnf)
      | (refine Ld.at 0 rfl rfl ?_; conv => whnf)
      | ((with_reducible refine Br.ds (fun _ => ?_) (fun _ => ?_) ) <;> (conv => whnf)))
    all_goals exact Is.ent (by (refine FEnt.ent ?_; (repeat (first | exact FEnt.rfl | refine FEnt.drop ?_)); done)) (Is.ff (fun h => hi h.1))
theorem Tryz.has4 (C : Cfg) (r : Int) (L : List HP) (hB : CfB C) (hF : frF C) (h0 : 0 ≤ r ∧ r ≤ 32) (hr : Rd slE L C.wa C.ws) : Con Tryz.prog 25 [cfV C, n64 4, n64 r] L (Is (.bool (decide (inR r C.ws.length ∧ b4 C (r - 1).toNat))) L) := by
  by_cases hi : inR r C.ws.length
  · have hbd := fun L => Tryz.refBadW C (cW C (r - 1).toNat).1 (cW C (r - 1).toNat).2.1 (cW C (r - 1).toNat).2.2 L
    refine con_of Tryz.tysOk Tryz.func25 rfl rfl ?_
    conv => whnf
    repeat' (first
      | (first | ((with_reducible refine Br.tt ?_); conv => whnf) | ((with_reducible refine Br.dt ?_ ?_); (focus (first | assumption | omega)); conv => whnf) | ((with_reducible refine Br.df ?_ ?_); (focus (first | assumption | omega)); conv => whnf))
      | ((with_reducible refine Ar.i64 ?_ ?_); (focus omega); conv => whnf)
      | ((with_reducible refine Nc.go' (fun _ => ?_)); conv => whnf)
      | ((with_reducible refine Ix.ad ?_ ?_ ?_); (focus (exact Rd.ad (by assumption))); (focus (omega)); conv => whnf)
      | (refine Ld.at 0 rfl rfl ?_; conv => whnf)
      | (first | ((apply LdN.rd); (focus ((repeat (first | assumption | apply Rd.cons)); done)); (focus rfl); (focus rfl); (focus (omega)); conv => whnf) | (refine LdN.at 0 rfl (by first | exact Nat.le_of_ble_eq_true rfl | (simp; done)) ?_; conv => whnf))
      | ((with_reducible refine Dr.by (id := 14) Tryz.tysOk rfl [(0, 0), (1, 0), (2, 0), (3, 0), (4, 0), (5, 1), (6, 0), (7, 0), (8, 0), (9, 0), (11, 0), (13, 0), (10, 1), (12, 1), (14, 0), (15, 1), (16, 1), (17, 0), (18, 0)] ?_ ?_); (focus kernel_rfl); conv => whnf)
      | ((with_reducible refine CD.is (fun M => hbd _) ?_); conv => whnf))
    all_goals exact Is.ent (by (refine FEnt.ent ?_; (repeat (first | exact FEnt.rfl | refine FEnt.drop ?_)); done)) (Is.dec ⟨fun h => ⟨hi, h⟩, fun h => h.2⟩)
  · refine con_of Tryz.tysOk Tryz.func25 rfl rfl ?_
    conv => whnf
    repeat' (first
      | (first | ((with_reducible refine Br.tt ?_); conv => whnf) | ((with_reducible refine Br.ff ?_); conv => whnf) | ((with_reducible refine Br.dt ?_ ?_); (focus (first | assumption | omega)); conv => whnf) | ((with_reducible refine Br.df ?_ ?_); (focus (first | assumption | omega)); conv => whnf))
      | ((with_reducible refine Ar.i64 ?_ ?_); (focus omega); conv => whnf)
      | ((with_reducible refine Nc.go' (fun _ => ?_)); conv => whnf)
      | (refine Ld.at 0 rfl rfl ?_; conv => whnf)
      | ((with_reducible refine Dr.by (id := 14) Tryz.tysOk rfl [(0, 0), (1, 0), (2, 0), (3, 0), (4, 0), (5, 1), (6, 0), (7, 0), (8, 0), (9, 0), (11, 0), (13, 0), (10, 1), (12, 1), (14, 0), (15, 1), (16, 1), (17, 0), (18, 0)] ?_ ?_); (focus kernel_rfl); conv => whnf)
      | ((with_reducible refine Br.ds (fun _ => ?_) (fun _ => ?_) ) <;> (conv => whnf)))
    all_goals exact Is.ent (by (refine FEnt.ent ?_; (repeat (first | exact FEnt.rfl | refine FEnt.drop ?_)); done)) (Is.ff (fun h => hi h.1))
theorem Tryz.has8 (C : Cfg) (r : Int) (L : List HP) (hB : CfB C) (hF : frF C) (h0 : 0 ≤ r ∧ r ≤ 32) (hr : Rd slE L C.sa C.ss) : Con Tryz.prog 25 [cfV C, n64 8, n64 r] L (Is (.bool (decide (inR r C.ss.length ∧ b8 C (r - 1).toNat))) L) := by
  by_cases hi : inR r C.ss.length
  · have hbd := fun L => Tryz.refBadS C (cS C (r - 1).toNat).1 (cS C (r - 1).toNat).2.1 (cS C (r - 1).toNat).2.2 L hB.F.2
    refine con_of Tryz.tysOk Tryz.func25 rfl rfl ?_
    conv => whnf
    repeat' (first
      | (first | ((with_reducible refine Br.tt ?_); conv => whnf) | ((with_reducible refine Br.dt ?_ ?_); (focus (first | assumption | omega)); conv => whnf) | ((with_reducible refine Br.df ?_ ?_); (focus (first | assumption | omega)); conv => whnf))
      | ((with_reducible refine Ar.i64 ?_ ?_); (focus omega); conv => whnf)
      | ((with_reducible refine Nc.go' (fun _ => ?_)); conv => whnf)
      | ((with_reducible refine Ix.ad ?_ ?_ ?_); (focus (exact Rd.ad (by assumption))); (focus (omega)); conv => whnf)
      | (refine Ld.at 0 rfl rfl ?_; conv => whnf)
      | (first | ((apply LdN.rd); (focus ((repeat (first | assumption | apply Rd.cons)); done)); (focus rfl); (focus rfl); (focus (omega)); conv => whnf) | (refine LdN.at 0 rfl (by first | exact Nat.le_of_ble_eq_true rfl | (simp; done)) ?_; conv => whnf))
      | ((with_reducible refine Dr.by (id := 38) Tryz.tysOk rfl [(0, 0), (1, 0), (2, 0), (3, 0), (4, 0), (5, 1), (6, 0), (7, 0), (8, 0), (9, 0), (11, 0), (13, 0), (10, 1), (12, 1), (14, 0), (15, 1), (16, 1), (17, 0), (18, 0)] ?_ ?_); (focus kernel_rfl); conv => whnf)
      | ((with_reducible refine CD.is (fun M => hbd _) ?_); conv => whnf))
    all_goals exact Is.ent (by (refine FEnt.ent ?_; (repeat (first | exact FEnt.rfl | refine FEnt.drop ?_)); done)) (Is.dec ⟨fun h => ⟨hi, h⟩, fun h => h.2⟩)
  · refine con_of Tryz.tysOk Tryz.func25 rfl rfl ?_
    conv => whnf
    repeat' (first
      | (first | ((with_reducible refine Br.tt ?_); conv => whnf) | ((with_reducible refine Br.ff ?_); conv => whnf) | ((with_reducible refine Br.dt ?_ ?_); (focus (first | assumption | omega)); conv => whnf) | ((with_reducible refine Br.df ?_ ?_); (focus (first | assumption | omega)); conv => whnf))
      | ((with_reducible refine Ar.i64 ?_ ?_); (focus omega); conv => whnf)
      | ((with_reducible refine Nc.go' (fun _ => ?_)); conv => whnf)
      | (refine Ld.at 0 rfl rfl ?_; conv => whnf)
      | ((with_reducible refine Dr.by (id := 38) Tryz.tysOk rfl [(0, 0), (1, 0), (2, 0), (3, 0), (4, 0), (5, 1), (6, 0), (7, 0), (8, 0), (9, 0), (11, 0), (13, 0), (10, 1), (12, 1), (14, 0), (15, 1), (16, 1), (17, 0), (18, 0)] ?_ ?_); (focus kernel_rfl); conv => whnf)
      | ((with_reducible refine Br.ds (fun _ => ?_) (fun _ => ?_) ) <;> (conv => whnf)))
    all_goals exact Is.ent (by (refine FEnt.ent ?_; (repeat (first | exact FEnt.rfl | refine FEnt.drop ?_)); done)) (Is.ff (fun h => hi h.1))
theorem Tryz.has10 (C : Cfg) (r : Int) (L : List HP) (hB : CfB C) (hF : frF C) (h0 : 0 ≤ r ∧ r ≤ 32) (hr : Rd clE L C.ca C.xs) (hs : Rd slE L C.sa C.ss) : Con Tryz.prog 25 [cfV C, n64 10, n64 r] L (Is (.bool (decide (inR r C.xs.length ∧ b10 C (r - 1).toNat))) L) := by
  by_cases hi : inR r C.xs.length
  · have hu := fun L h => Tryz.refUnits C r L hB.F.2 (by omega) h
    have e : (((r - 1).toNat : Nat) : Int) + 1 = r := by omega
    refine con_of Tryz.tysOk Tryz.func25 rfl rfl ?_
    conv => whnf
    repeat' (first
      | (first | ((with_reducible refine Br.tt ?_); conv => whnf) | ((with_reducible refine Br.dt ?_ ?_); (focus (first | assumption | omega)); conv => whnf) | ((with_reducible refine Br.df ?_ ?_); (focus (first | assumption | omega)); conv => whnf))
      | ((with_reducible refine Ar.i64 ?_ ?_); (focus omega); conv => whnf)
      | ((with_reducible refine Nc.go' (fun _ => ?_)); conv => whnf)
      | ((with_reducible refine Ix.ad ?_ ?_ ?_); (focus (exact Rd.ad (by assumption))); (focus (omega)); conv => whnf)
      | (first | ((apply Ld.rd); (focus ((repeat (first | assumption | apply Rd.cons)); done)); (focus rfl); (focus (omega)); (focus rfl); conv => whnf) | (refine Ld.at 0 rfl rfl ?_; conv => whnf))
      | (refine LdN.at 0 rfl (by first | exact Nat.le_of_ble_eq_true rfl | (simp; done)) ?_; conv => whnf)
      | ((with_reducible refine Dr.by (id := 47) Tryz.tysOk rfl [(0, 0), (1, 0), (2, 0), (3, 0), (4, 0), (5, 1), (6, 0), (7, 0), (8, 0), (9, 0), (10, 0), (12, 0), (17, 0), (11, 1), (13, 0), (14, 0), (15, 1), (16, 1), (18, 1), (19, 0), (20, 0), (21, 0)] ?_ ?_); (focus kernel_rfl); conv => whnf)
      | ((with_reducible refine CD.is (fun M => hu _ (by ((repeat (first | assumption | apply Rd.cons | apply Rd.app)); done))) ?_); conv => whnf))
    all_goals exact Is.ent (by (refine FEnt.ent ?_; (repeat (first | exact FEnt.rfl | refine FEnt.drop ?_)); done)) (Is.dec ⟨fun h => ⟨hi, by unfold b10; rw [e]; exact h⟩, fun h => by have := h.2; unfold b10 at this; rw [e] at this; exact this⟩)
  · refine con_of Tryz.tysOk Tryz.func25 rfl rfl ?_
    conv => whnf
    repeat' (first
      | (first | ((with_reducible refine Br.tt ?_); conv => whnf) | ((with_reducible refine Br.ff ?_); conv => whnf) | ((with_reducible refine Br.df ?_ ?_); (focus (first | assumption | omega)); conv => whnf))
      | ((with_reducible refine Ar.i64 ?_ ?_); (focus omega); conv => whnf)
      | ((with_reducible refine Nc.go' (fun _ => ?_)); conv => whnf)
      | (refine Ld.at 0 rfl rfl ?_; conv => whnf)
      | ((with_reducible refine Dr.by (id := 47) Tryz.tysOk rfl [(0, 0), (1, 0), (2, 0), (3, 0), (4, 0), (5, 1), (6, 0), (7, 0), (8, 0), (9, 0), (10, 0), (12, 0), (17, 0), (11, 1), (13, 0), (14, 0), (15, 1), (16, 1), (18, 1), (19, 0), (20, 0), (21, 0)] ?_ ?_); (focus kernel_rfl); conv => whnf)
      | ((with_reducible refine Br.ds (fun _ => ?_) (fun _ => ?_) ) <;> (conv => whnf)))
    all_goals exact Is.ent (by (refine FEnt.ent ?_; (repeat (first | exact FEnt.rfl | refine FEnt.drop ?_)); done)) (Is.ff (fun h => hi h.1))
theorem Tryz.has6 (C : Cfg) (r : Int) (L : List HP) (hB : CfB C) (hF : frF C) (h0 : 0 ≤ r ∧ r ≤ 32) (hr : Rd slE L C.wa C.ws) : Con Tryz.prog 25 [cfV C, n64 6, n64 r] L (Is (.bool (decide (r < C.xs.length + 1 ∧ b6 C r.toNat))) L) := by
  have e : ((r.toNat : Nat) : Int) = r := by omega
  refine con_of Tryz.tysOk Tryz.func25 rfl rfl ?_
  conv => whnf
  repeat' (first
    | (first | ((with_reducible refine Br.dt ?_ ?_); (focus (first | assumption | omega)); conv => whnf) | ((with_reducible refine Br.df ?_ ?_); (focus (first | assumption | omega)); conv => whnf))
    | ((with_reducible refine Ar.i64 ?_ ?_); (focus omega); conv => whnf)
    | ((with_reducible refine Nc.go' (fun _ => ?_)); conv => whnf))
  rename_i b3
  conv => whnf
  refine Lp.by Tryz.tysOk [14] (fun (k : Nat) => [.int .i64 k]) (fun k => ptc b3 26 (cfC C) :: L) (fun k => k ≤ C.ws.length ∧ ∀ i, i < k → ¬ (cW C i).1 = r) (fun k => C.ws.length - k) (0) (by kernel_rfl) (by (exact Ent.rfl)) (⟨by omega, fun i h => by omega⟩) ?_
  rintro k ⟨h1, h2⟩
  conv => whnf
  repeat (intro _; conv => whnf)
  by_cases hk : k < C.ws.length
  · by_cases he : (cW C k).1 = r
    · have hno : ¬ b6 C r.toNat := fun h => h ⟨k, hk, by rw [e]; exact he⟩
      simp only [cW] at he
      conv => whnf
      repeat' (first
        | ((with_reducible refine Br.dt ?_ ?_); (focus (first | assumption | omega)); conv => whnf)
        | ((with_reducible refine Ix.ad ?_ ?_ ?_); (focus (exact Rd.ad (by assumption))); (focus (omega)); conv => whnf)
        | (first | ((with_reducible apply Ld.rdk0); (focus ((repeat (first | assumption | apply Rd.cons)); done)); (focus rfl); (focus (omega)); (focus rfl); conv => whnf) | (refine Ld.at 0 rfl rfl ?_; conv => whnf)))
      all_goals exact Is.ent (by (refine FEnt.ent ?_; (repeat (first | exact FEnt.rfl | refine FEnt.drop ?_)); done)) (Is.ff (fun h => hno h.2))
    · have he2 := he
      simp only [cW] at he
      conv => whnf
      repeat' (first
        | (first | ((with_reducible refine Br.dt ?_ ?_); (focus (first | assumption | omega)); conv => whnf) | ((with_reducible refine Br.df ?_ ?_); (focus (first | assumption | omega)); conv => whnf))
        | ((with_reducible refine Ar.i64 ?_ ?_); (focus omega); conv => whnf)
        | ((with_reducible refine Ix.ad ?_ ?_ ?_); (focus (exact Rd.ad (by assumption))); (focus (omega)); conv => whnf)
        | (first | ((with_reducible apply Ld.rdk0); (focus ((repeat (first | assumption | apply Rd.cons)); done)); (focus rfl); (focus (omega)); (focus rfl); conv => whnf) | (refine Ld.at 0 rfl rfl ?_; conv => whnf)))
      refine ⟨k + 1, by kernel_rfl, by (exact Ent.rfl), ⟨by omega, lt_step h2 he2⟩, by omega⟩
  · have hb : b6 C r.toNat := fun ⟨j, hj, hw⟩ => h2 j (by omega) (by rw [e] at hw; exact hw)
    conv => whnf
    repeat' (first
      | ((with_reducible refine Br.df ?_ ?_); (focus (first | assumption | omega)); conv => whnf)
      | (refine Ld.at 0 rfl rfl ?_; conv => whnf))
    all_goals exact Is.ent (by (refine FEnt.ent ?_; (repeat (first | exact FEnt.rfl | refine FEnt.drop ?_)); done)) (Is.dec ⟨fun h => ⟨by omega, hb⟩, fun h => by have := h.1; omega⟩)
theorem Tryz.has7 (C : Cfg) (r : Int) (L : List HP) (hB : CfB C) (hF : frF C) (h0 : 0 ≤ r ∧ r ≤ 32) (hr : Rd slE L C.wa C.ws) : Con Tryz.prog 25 [cfV C, n64 7, n64 r] L (Is (.bool (decide (r = 0 ∧ b7 C))) L) := by
  by_cases hz : r = 0
  · subst hz
    refine con_of Tryz.tysOk Tryz.func25 rfl rfl ?_
    conv => whnf
    repeat' (first
      | (first | ((with_reducible refine Br.dt ?_ ?_); (focus (first | assumption | omega)); conv => whnf) | ((with_reducible refine Br.df ?_ ?_); (focus (first | assumption | omega)); conv => whnf))
      | ((with_reducible refine Ar.i64 ?_ ?_); (focus omega); conv => whnf)
      | ((with_reducible refine Nc.go' (fun _ => ?_)); conv => whnf))
    rename_i b3
    conv => whnf
    refine Lp.by Tryz.tysOk [15] (fun (k : Nat) => [.int .i64 k]) (fun k => ptc b3 26 (cfC C) :: L) (fun k => k ≤ C.ws.length ∧ ∀ i, i < k → ¬ (cW C i).1 = 0) (fun k => C.ws.length - k) (0) (by kernel_rfl) (by (exact Ent.rfl)) (⟨by omega, fun i h => by omega⟩) ?_
    rintro k ⟨h1, h2⟩
    conv => whnf
    repeat (intro _; conv => whnf)
    by_cases hk : k < C.ws.length
    · by_cases he : (cW C k).1 = 0
      · have h7 : b7 C ↔ goodW C (cW C k) ∧ (cW C k).2.2 - (cW C k).2.1 < 2 * C.xs.length := by
          constructor
          · rintro ⟨m, k1, k2, k3, k4⟩
            have e : m = k := by
              rcases Nat.lt_trichotomy m k with h | h | h
              · exact (h2 m h k2).elim
              · exact h
              · exact (k3 k h he).elim
            subst e
            exact k4
          · exact fun h => ⟨k, hk, he, h2, h⟩
        by_cases hg : goodW C (cW C k)
        · have hg2 : 0 ≤ (cW C k).2.1 ∧ (cW C k).2.1 < (cW C k).2.2 ∧ (cW C k).2.2 ≤ C.F := ⟨hg.2.1.1, hg.2.1.2, hg.2.2⟩
          have hng : ¬ ¬ goodW C (cW C k) := fun h => h hg
          simp only [cW] at he hg2
          conv => whnf
          repeat' (first
            | (first | ((with_reducible refine Br.tt ?_); conv => whnf) | ((with_reducible refine Br.nf ?_); conv => whnf) | ((with_reducible refine Br.dt ?_ ?_); (focus (first | assumption | omega)); conv => whnf))
            | ((with_reducible refine Ar.i64 ?_ ?_); (focus omega); conv => whnf)
            | ((with_reducible refine Ix.ad ?_ ?_ ?_); (focus (exact Rd.ad (by assumption))); (focus (omega)); conv => whnf)
            | (first | ((first | (with_reducible apply Ld.rdk) | (with_reducible apply Ld.rdk0)); (focus ((repeat (first | assumption | apply Rd.cons)); done)); (focus rfl); (focus (omega)); (focus rfl); conv => whnf) | (refine Ld.at 0 rfl rfl ?_; conv => whnf))
            | (first | ((with_reducible apply LdN.rdk); (focus ((repeat (first | assumption | apply Rd.cons)); done)); (focus rfl); (focus rfl); (focus (omega)); conv => whnf) | (refine LdN.at 0 rfl (by first | exact Nat.le_of_ble_eq_true rfl | (simp; done)) ?_; conv => whnf))
            | ((with_reducible refine Dr.by (id := 35) Tryz.tysOk rfl [(1, 0), (3, 0), (0, 1), (2, 1), (4, 0), (5, 1), (6, 1), (7, 0), (8, 0), (9, 0), (11, 0), (15, 0), (17, 0), (22, 0), (10, 1), (12, 0), (13, 0), (14, 1), (16, 1), (18, 0), (19, 0), (20, 1), (21, 0), (23, 1), (24, 0), (25, 0), (26, 0), (27, 0), (28, 0)] ?_ ?_); (focus kernel_rfl); conv => whnf)
            | ((with_reducible refine CD.is (fun M => Con.df hng (Tryz.refBadW _ _ _ _ _)) ?_); conv => whnf))
          all_goals exact Is.ent (by (refine FEnt.ent ?_; (repeat (first | exact FEnt.rfl | refine FEnt.drop ?_)); done)) (Is.dec ⟨fun h => ⟨rfl, h7.2 ⟨hg, h⟩⟩, fun h => (h7.1 h.2).2⟩)
        · simp only [cW] at he
          conv => whnf
          repeat' (first
            | (first | ((with_reducible refine Br.tt ?_); conv => whnf) | ((with_reducible refine Br.ff ?_); conv => whnf) | ((with_reducible refine Br.nt ?_); conv => whnf) | ((with_reducible refine Br.dt ?_ ?_); (focus (first | assumption | omega)); conv => whnf))
            | ((with_reducible refine Ix.ad ?_ ?_ ?_); (focus (exact Rd.ad (by assumption))); (focus (omega)); conv => whnf)
            | (first | ((with_reducible apply Ld.rdk0); (focus ((repeat (first | assumption | apply Rd.cons)); done)); (focus rfl); (focus (omega)); (focus rfl); conv => whnf) | (refine Ld.at 0 rfl rfl ?_; conv => whnf))
            | (first | ((with_reducible apply LdN.rdk); (focus ((repeat (first | assumption | apply Rd.cons)); done)); (focus rfl); (focus rfl); (focus (omega)); conv => whnf) | (refine LdN.at 0 rfl (by first | exact Nat.le_of_ble_eq_true rfl | (simp; done)) ?_; conv => whnf))
            | ((with_reducible refine Dr.by (id := 35) Tryz.tysOk rfl [(1, 0), (3, 0), (0, 1), (2, 1), (4, 0), (5, 1), (6, 1), (7, 0), (8, 0), (9, 0), (11, 0), (15, 0), (17, 0), (22, 0), (10, 1), (12, 0), (13, 0), (14, 1), (16, 1), (18, 0), (19, 0), (20, 1), (21, 0), (23, 1), (24, 0), (25, 0), (26, 0), (27, 0), (28, 0)] ?_ ?_); (focus kernel_rfl); conv => whnf)
            | ((with_reducible refine CD.is (fun M => Con.dt hg (Tryz.refBadW _ _ _ _ _)) ?_); conv => whnf))
          all_goals exact Is.ent (by (refine FEnt.ent ?_; (repeat (first | exact FEnt.rfl | refine FEnt.drop ?_)); done)) (Is.ff (fun h => hg (h7.1 h.2).1))
      · have he2 := he
        simp only [cW] at he
        conv => whnf
        repeat' (first
          | (first | ((with_reducible refine Br.tt ?_); conv => whnf) | ((with_reducible refine Br.dt ?_ ?_); (focus (first | assumption | omega)); conv => whnf) | ((with_reducible refine Br.df ?_ ?_); (focus (first | assumption | omega)); conv => whnf))
          | ((with_reducible refine Ar.i64 ?_ ?_); (focus omega); conv => whnf)
          | ((with_reducible refine Ix.ad ?_ ?_ ?_); (focus (exact Rd.ad (by assumption))); (focus (omega)); conv => whnf)
          | (first | ((with_reducible apply Ld.rdk0); (focus ((repeat (first | assumption | apply Rd.cons)); done)); (focus rfl); (focus (omega)); (focus rfl); conv => whnf) | (refine Ld.at 0 rfl rfl ?_; conv => whnf)))
        refine ⟨k + 1, by kernel_rfl, by (exact Ent.rfl), ⟨by omega, lt_step h2 he2⟩, by omega⟩
    · have hno : ¬ b7 C := fun ⟨m, k1, k2, _⟩ => h2 m (by omega) k2
      conv => whnf
      repeat' (first
        | (first | ((with_reducible refine Br.ff ?_); conv => whnf) | ((with_reducible refine Br.df ?_ ?_); (focus (first | assumption | omega)); conv => whnf))
        | (refine Ld.at 0 rfl rfl ?_; conv => whnf))
      all_goals exact Is.ent (by (refine FEnt.ent ?_; (repeat (first | exact FEnt.rfl | refine FEnt.drop ?_)); done)) (Is.ff (fun h => hno h.2))
  · refine con_of Tryz.tysOk Tryz.func25 rfl rfl ?_
    conv => whnf
    repeat' (first
      | (first | ((with_reducible refine Br.dt ?_ ?_); (focus (first | assumption | omega)); conv => whnf) | ((with_reducible refine Br.df ?_ ?_); (focus (first | assumption | omega)); conv => whnf))
      | ((with_reducible refine Ar.i64 ?_ ?_); (focus omega); conv => whnf)
      | ((with_reducible refine Nc.go' (fun _ => ?_)); conv => whnf))
    rename_i b3
    conv => whnf
    refine Lp.by Tryz.tysOk [15] (fun (k : Nat) => [.int .i64 k]) (fun k => ptc b3 26 (cfC C) :: L) (fun k => k = 0) (fun k => 0) (0) (by kernel_rfl) (by (exact Ent.rfl)) (rfl) ?_
    rintro k h1
    conv => whnf
    repeat (intro _; conv => whnf)
    subst h1
    conv => whnf
    repeat' (first
      | (first | ((with_reducible refine Br.tt ?_); conv => whnf) | ((with_reducible refine Br.ff ?_); conv => whnf) | ((with_reducible refine Br.df ?_ ?_); (focus (first | assumption | omega)); conv => whnf))
      | (refine Ld.at 0 rfl rfl ?_; conv => whnf)
      | ((with_reducible refine Br.ds (fun _ => ?_) (fun _ => ?_) ) <;> (conv => whnf)))
    all_goals exact Is.ent (by (refine FEnt.ent ?_; (repeat (first | exact FEnt.rfl | refine FEnt.drop ?_)); done)) (Is.ff (fun h => hz h.1))
end Go.Proofs
