/- A machine's tables: what is wrong, by the document: contracts. -/
import Derived.Test.YtdjpcfaidgofoaaGreatConfD
import Derived.Test.YtdjpcfaidgofoaaGreatConfB
set_option linter.all false
namespace Go.Proofs
open Go.Eng
open Classical
set_option linter.unusedVariables false
set_option maxRecDepth 100000
set_option maxHeartbeats 2000000
theorem Tryz.confQuota (C : Cfg) (i b : Nat) (A : HP) (L : List HP) (hB : CfB C) (hF : frF C) (hi : i < C.xs.length) (hr : Rd clE L C.ca C.xs) (hr2 : Rd slE L C.sa C.ss) :
    Con Tryz.prog 59 [.int .i64 i, .pointer (some ⟨b, 0, none⟩)] (A :: ptc b 28 (cfC C) :: L) (Is (.bool (decide (b10 C i))) (A :: ptc b 28 (cfC C) :: L)) := by
  have hu := fun L h => Tryz.confUnits C ((i : Int) + 1) L hB.F.2 h
  refine con_of Tryz.tysOk Tryz.func59 rfl rfl ?_
  conv => whnf
  repeat' (first
    | ((with_reducible refine Ar.i64 ?_ ?_); (focus omega); conv => whnf)
    | ((with_reducible refine Ix.ad ?_ ?_ ?_); (focus (exact Rd.ad (by assumption))); (focus (omega)); conv => whnf)
    | (first | ((with_reducible apply Ld.rdk); (focus ((repeat (first | assumption | apply Rd.cons)); done)); (focus rfl); (focus (omega)); (focus rfl); conv => whnf) | (refine Ld.at 1 rfl rfl ?_; conv => whnf))
    | (refine LdN.at 1 rfl (by first | exact Nat.le_of_ble_eq_true rfl | (simp; done)) ?_; conv => whnf)
    | ((with_reducible refine Dr.by (id := 1) Tryz.tysOk rfl [(0, 0), (2, 0), (7, 0), (8, 0), (1, 1), (3, 0), (4, 0), (5, 1), (6, 1), (9, 1), (10, 0), (11, 0)] ?_ ?_); (focus kernel_rfl); conv => whnf)
    | ((with_reducible refine CD.is (fun M => hu _ (by ((repeat (first | assumption | apply Rd.cons | apply Rd.app)); done))) ?_); conv => whnf))
  all_goals exact Is.ent (by (exact Ent.rfl)) (Is.dec Iff.rfl)
theorem Tryz.confClients0 (C : Cfg) (L : List HP) (hB : CfB C) (hF : frF C) (hr : Rd clE L C.ca C.xs) :
    Con Tryz.prog 57 [.slice none 0 0, cfV C] L (Exs flV (fun y => own spE 61 y.1 y.2.1 y.2.2 :: L) (fun y => flOk y 16 [] ((∀ i, i < C.xs.length → ¬ b2 C i) ∧ ∀ i, i < C.xs.length → ¬ b3 C i))) :=
  Con.entl (M := own spE 61 none 0 [] :: L) (by (exact Ent.nil)) (Tryz.confClients C none 0 [] L hB hF (by decide) (Nat.le_refl _) (fun h => (h rfl).elim) hr)
theorem Tryz.confFaults (C : Cfg) (L : List HP) (hB : CfB C) (hw : Rd slE L C.wa C.ws) (hs : Rd slE L C.sa C.ss) (hc : Rd clE L C.ca C.xs) :
    Con Tryz.prog 21 [cfV C] L (Exs flV (fun _ => L) (fun y => y.2.2.length ≤ 200 ∧ (y.2.2 = [] ↔ Right C))) := by
  by_cases hF : frF C
  · have c1 := fun L h => Tryz.confClients0 C L hB hF h
    have c2 := fun a c fs L (hf : fs.length ≤ 500) hc had h => Tryz.confWindows C a c fs L hB hF hf hc had h
    have c3 := fun a c fs L (hf : fs.length ≤ 500) hc had h => Tryz.confSlots C a c fs L hB hF hf hc had h
    have c4 := fun b a c fs (hf : fs.length ≤ 1000) hc' had => Tryz.confRows 10 C.xs.length 59 [.pointer (some ⟨b, 0, none⟩)] (b10 C) a c fs (ptc b 28 (cfC C) :: L) (by omega) hf hc' had (fun i A hi => Tryz.confQuota C i b A L hB hF hi hc hs)
    refine con_of Tryz.tysOk Tryz.func21 rfl rfl ?_
    conv => whnf
    repeat' (first
      | ((with_reducible refine Br.nt ?_); conv => whnf)
      | ((with_reducible refine Nc.go' (fun _ => ?_)); conv => whnf)
      | ((with_reducible refine Fk.mk ?_ ?_) <;> (conv => whnf))
      | (with_reducible exact True.intro)
      | (refine Ld.at 1 rfl rfl ?_; conv => whnf)
      | (first | (refine LdN.at 0 rfl (by first | exact Nat.le_of_ble_eq_true rfl | (simp; done)) ?_; conv => whnf) | (refine LdN.at 1 rfl (by first | exact Nat.le_of_ble_eq_true rfl | (simp; done)) ?_; conv => whnf))
      | ((with_reducible refine Dr.tree (id := 3) Tryz.tysOk rfl (.one 0 1 (.fork 1 3 (.one 2 1 (.fork 3 3 (.one 4 1 (.one 5 3 (.one 6 0 .nil))) (.fork 4 1 (.one 3 3 (.one 5 3 (.one 6 0 .nil))) .nil))) (.fork 2 1 (.fork 1 3 (.fork 3 3 (.one 4 1 (.one 5 3 (.one 6 0 .nil))) (.fork 4 1 (.one 3 3 (.one 5 3 (.one 6 0 .nil))) .nil)) (.fork 4 1 (.one 1 3 (.one 3 3 (.one 5 3 (.one 6 0 .nil)))) .nil)) (.fork 4 1 (.fork 1 3 (.one 2 1 (.one 3 3 (.one 5 3 (.one 6 0 .nil)))) (.fork 2 1 (.one 1 3 (.one 3 3 (.one 5 3 (.one 6 0 .nil)))) .nil)) .nil)))) ?_ _ ?_ (fun _ _ h => h)); (focus kernel_rfl); conv => whnf)
      | (first | ((with_reducible refine Cl.is (Con.dt hF (Tryz.confFrame _ _)) ?_); conv => whnf) | ((with_reducible refine (?_ : Cl _ 57 _ _ _ _)); (refine Cl.exs (c1 _ (by ((repeat (first | assumption | apply Rd.cons)); done))) ?_; rintro ⟨a2, c2', f2⟩ ⟨⟨hl2, he2⟩, hc2, had2⟩); conv => whnf) | ((with_reducible refine (?_ : Cl _ 56 _ _ _ _)); (refine Cl.exs (c2 _ _ _ _ (by dsimp only at *; simp only [List.length_nil] at *; omega) hc2 had2 (by ((repeat (first | assumption | apply Rd.cons)); done))) ?_; rintro ⟨a3, c3', f3⟩ ⟨⟨hl3, he3⟩, hc3, had3⟩); conv => whnf) | ((with_reducible refine (?_ : Cl _ 55 _ _ _ _)); (refine Cl.exs (c3 _ _ _ _ (by dsimp only at *; simp only [List.length_nil] at *; omega) hc3 had3 (by ((repeat (first | assumption | apply Rd.cons)); done))) ?_; rintro ⟨a4, c4', f4⟩ ⟨⟨hl4, he4⟩, hc4, had4⟩); conv => whnf) | ((with_reducible refine (?_ : Cl _ 58 _ _ _ _)); (refine Cl.exs (c4 _ _ _ _ (by dsimp only at *; simp only [List.length_nil] at *; omega) hc4 had4) ?_; rintro ⟨a5, c5', f5⟩ ⟨⟨hl5, he5⟩, hc5, had5⟩); conv => whnf)))
    all_goals (dsimp only at *; simp only [List.length_nil] at *; exact Exs.of ((a5, c5', f5) : Fl) (by (try dsimp only); (refine FEnt.ent ?_; (repeat (first | exact FEnt.rfl | refine FEnt.drop ?_)); done)) ⟨by (try dsimp only); omega, by (try dsimp only); rw [he5, he4, he3, he2]; exact ⟨fun h => ⟨hF, h.1.1.1.2.1, h.1.1.1.2.2, h.1.1.2.1, h.1.1.2.2.1, h.1.1.2.2.2.1, h.1.1.2.2.2.2, h.1.2.1, h.1.2.2, h.2⟩, fun h => ⟨⟨⟨⟨trivial, h.r2, h.r3⟩, h.r4, h.r5, h.r6, h.r7⟩, h.r8, h.r9⟩, h.r10⟩⟩⟩ rfl)
  · refine con_of Tryz.tysOk Tryz.func21 rfl rfl ?_
    conv => whnf
    repeat' (first
      | ((with_reducible refine Br.nf ?_); conv => whnf)
      | ((with_reducible refine Nc.go' (fun _ => ?_)); conv => whnf)
      | (refine LdN.at 0 rfl (by first | exact Nat.le_of_ble_eq_true rfl | (simp; done)) ?_; conv => whnf)
      | ((with_reducible refine Cl.is (Con.df hF (Tryz.confFrame _ _)) ?_); conv => whnf))
    all_goals exact Exs.of ((some ⟨_, 0, none⟩, 1, [(0, 1)]) : Fl) (by (try dsimp only); (refine FEnt.ent ?_; (repeat (first | exact FEnt.rfl | refine FEnt.drop ?_)); done)) ⟨by show 1 ≤ 200; omega, ⟨fun h => absurd h (by simp), fun h => absurd h.f hF⟩⟩ rfl
theorem Tryz.confCheck (C : Cfg) (L : List HP) (hB : CfB C) (hw : Rd slE L C.wa C.ws) (hs : Rd slE L C.sa C.ss) (hc : Rd clE L C.ca C.xs) :
    Con Tryz.prog 61 [cfV C] L (Is (.bool (decide (Right C))) L) := by
  have hf := fun L hw hs hc => Tryz.confFaults C L hB hw hs hc
  refine con_of Tryz.tysOk Tryz.func61 rfl rfl ?_
  conv => whnf
  repeat' (first
    | ((with_reducible refine Nc.go' (fun _ => ?_)); conv => whnf)
    | (refine LdN.at 0 rfl (by first | exact Nat.le_of_ble_eq_true rfl | (simp; done)) ?_; conv => whnf)
    | ((with_reducible refine (?_ : Cl _ 21 _ _ _ _)); (refine Cl.exs (hf _ (by ((repeat (first | assumption | apply Rd.cons)); done)) (by ((repeat (first | assumption | apply Rd.cons)); done)) (by ((repeat (first | assumption | apply Rd.cons)); done))) ?_; rintro ⟨a2, c2, f2⟩ ⟨hl, he⟩); conv => whnf))
  all_goals (dsimp only at he hl; exact Is.ent (by (refine FEnt.ent ?_; (repeat (first | exact FEnt.rfl | refine FEnt.drop ?_)); done)) (Is.dec ⟨fun h => he.1 (List.length_eq_zero_iff.1 (by have := h; dsimp only at this; omega)), fun h => by rw [he.2 h]; rfl⟩))
end Go.Proofs
set_option linter.all false
namespace Go.Proofs
open Go.Eng
open Classical
set_option linter.unusedVariables false
set_option maxRecDepth 100000
set_option maxHeartbeats 2000000
abbrev inR (r : Int) (n : Nat) : Prop := 0 ≤ r - 1 ∧ r - 1 < n
theorem Tryz.has2 (C : Cfg) (r : Int) (L : List HP) (hB : CfB C) (hF : frF C) (h0 : 0 ≤ r ∧ r ≤ 32) (hr : Rd clE L C.ca C.xs) : Con Tryz.prog 19 [cfV C, n64 2, n64 r] L (Is (.bool (decide (inR r C.xs.length ∧ b2 C (r - 1).toNat))) L) := by
  by_cases hi : inR r C.xs.length
  · have hbd := fun L => Tryz.refBad (cX C (r - 1).toNat) L (hB.c _ (getD_mem (by omega)))
    refine con_of Tryz.tysOk Tryz.func19 rfl rfl ?_
    conv => whnf
    repeat' (first
      | (first | ((with_reducible refine Br.tt ?_); conv => whnf) | ((with_reducible refine Br.dt ?_ ?_); (focus (first | assumption | omega)); conv => whnf))
      | ((with_reducible refine Ar.i64 ?_ ?_); (focus omega); conv => whnf)
      | ((with_reducible refine Nc.go' (fun _ => ?_)); conv => whnf)
      | ((with_reducible refine Ix.ad ?_ ?_ ?_); (focus (exact Rd.ad (by assumption))); (focus (omega)); conv => whnf)
      | (refine Ld.at 0 rfl rfl ?_; conv => whnf)
      | ((apply LdN.rd); (focus ((repeat (first | assumption | apply Rd.cons)); done)); (focus rfl); (focus rfl); (focus (omega)); conv => whnf)
      | ((with_reducible refine Cl.is (hbd _) ?_); conv => whnf))
    all_goals exact Is.ent (by (refine FEnt.ent ?_; (repeat (first | exact FEnt.rfl | refine FEnt.drop ?_)); done)) (Is.dec ⟨fun h => ⟨hi, h⟩, fun h => h.2⟩)
  · refine con_of Tryz.tysOk Tryz.func19 rfl rfl ?_
    conv => whnf
    repeat' (first
      | (first | ((with_reducible refine Br.tt ?_); conv => whnf) | ((with_reducible refine Br.ff ?_); conv => whnf) | ((with_reducible refine Br.dt ?_ ?_); (focus (first | assumption | omega)); conv => whnf) | ((with_reducible refine Br.df ?_ ?_); (focus (first | assumption | omega)); conv => whnf))
      | ((with_reducible refine Ar.i64 ?_ ?_); (focus omega); conv => whnf)
      | ((with_reducible refine Nc.go' (fun _ => ?_)); conv => whnf)
      | (refine Ld.at 0 rfl rfl ?_; conv => whnf)
      | ((with_reducible refine Br.ds (fun _ => ?_) (fun _ => ?_) ) <;> (conv => whnf)))
    all_goals exact Is.ent (by (refine FEnt.ent ?_; (repeat (first | exact FEnt.rfl | refine FEnt.drop ?_)); done)) (Is.ff (fun h => hi h.1))
theorem Tryz.has4 (C : Cfg) (r : Int) (L : List HP) (hB : CfB C) (hF : frF C) (h0 : 0 ≤ r ∧ r ≤ 32) (hr : Rd slE L C.wa C.ws) : Con Tryz.prog 19 [cfV C, n64 4, n64 r] L (Is (.bool (decide (inR r C.ws.length ∧ b4 C (r - 1).toNat))) L) := by
  by_cases hi : inR r C.ws.length
  · have hbd := fun L => Tryz.refBadW C (cW C (r - 1).toNat).1 (cW C (r - 1).toNat).2.1 (cW C (r - 1).toNat).2.2 L
    refine con_of Tryz.tysOk Tryz.func19 rfl rfl ?_
    conv => whnf
    repeat' (first
      | (first | ((with_reducible refine Br.tt ?_); conv => whnf) | ((with_reducible refine Br.dt ?_ ?_); (focus (first | assumption | omega)); conv => whnf) | ((with_reducible refine Br.df ?_ ?_); (focus (first | assumption | omega)); conv => whnf))
      | ((with_reducible refine Ar.i64 ?_ ?_); (focus omega); conv => whnf)
      | ((with_reducible refine Nc.go' (fun _ => ?_)); conv => whnf)
      | ((with_reducible refine Ix.ad ?_ ?_ ?_); (focus (exact Rd.ad (by assumption))); (focus (omega)); conv => whnf)
      | (refine Ld.at 0 rfl rfl ?_; conv => whnf)
      | (first | ((apply LdN.rd); (focus ((repeat (first | assumption | apply Rd.cons)); done)); (focus rfl); (focus rfl); (focus (omega)); conv => whnf) | (refine LdN.at 0 rfl (by first | exact Nat.le_of_ble_eq_true rfl | (simp; done)) ?_; conv => whnf))
      | ((with_reducible refine Dr.by (id := 14) Tryz.tysOk rfl [(0, 0), (1, 0), (2, 0), (3, 0), (4, 0), (5, 1), (6, 0), (7, 0), (8, 0), (9, 0), (11, 0), (13, 0), (10, 1), (12, 1), (14, 0), (15, 1), (16, 1), (17, 0), (18, 0)] ?_ ?_); (focus kernel_rfl); conv => whnf)
      | ((with_reducible refine CD.is (fun M => hbd _) ?_); conv => whnf))
    all_goals exact Is.ent (by (refine FEnt.ent ?_; (repeat (first | exact FEnt.rfl | refine FEnt.drop ?_)); done)) (Is.dec ⟨fun h => ⟨hi, h⟩, fun h => h.2⟩)
  · refine con_of Tryz.tysOk Tryz.func19 rfl rfl ?_
    conv => whnf
    repeat' (first
      | (first | ((with_reducible refine Br.tt ?_); conv => whnf) | ((with_reducible refine Br.ff ?_); conv => whnf) | ((with_reducible refine Br.dt ?_ ?_); (focus (first | assumption | omega)); conv => whnf) | ((with_reducible refine Br.df ?_ ?_); (focus (first | assumption | omega)); conv => whnf))
      | ((with_reducible refine Ar.i64 ?_ ?_); (focus omega); conv => whnf)
      | ((with_reducible refine Nc.go' (fun _ => ?_)); conv => whnf)
      | (refine Ld.at 0 rfl rfl ?_; conv => whnf)
      | ((with_reducible refine Dr.by (id := 14) Tryz.tysOk rfl [(0, 0), (1, 0), (2, 0), (3, 0), (4, 0), (5, 1), (6, 0), (7, 0), (8, 0), (9, 0), (11, 0), (13, 0), (10, 1), (12, 1), (14, 0), (15, 1), (16, 1), (17, 0), (18, 0)] ?_ ?_); (focus kernel_rfl); conv => whnf)
      | ((with_reducible refine Br.ds (fun _ => ?_) (fun _ => ?_) ) <;> (conv => whnf)))
    all_goals exact Is.ent (by (refine FEnt.ent ?_; (repeat (first | exact FEnt.rfl | refine FEnt.drop ?_)); done)) (Is.ff (fun h => hi h.1))
theorem Tryz.has8 (C : Cfg) (r : Int) (L : List HP) (hB : CfB C) (hF : frF C) (h0 : 0 ≤ r ∧ r ≤ 32) (hr : Rd slE L C.sa C.ss) : Con Tryz.prog 19 [cfV C, n64 8, n64 r] L (Is (.bool (decide (inR r C.ss.length ∧ b8 C (r - 1).toNat))) L) := by
  by_cases hi : inR r C.ss.length
  · have hbd := fun L => Tryz.refBadS C (cS C (r - 1).toNat).1 (cS C (r - 1).toNat).2.1 (cS C (r - 1).toNat).2.2 L hB.F.2
    refine con_of Tryz.tysOk Tryz.func19 rfl rfl ?_
    conv => whnf
    repeat' (first
      | (first | ((with_reducible refine Br.tt ?_); conv => whnf) | ((with_reducible refine Br.dt ?_ ?_); (focus (first | assumption | omega)); conv => whnf) | ((with_reducible refine Br.df ?_ ?_); (focus (first | assumption | omega)); conv => whnf))
      | ((with_reducible refine Ar.i64 ?_ ?_); (focus omega); conv => whnf)
      | ((with_reducible refine Nc.go' (fun _ => ?_)); conv => whnf)
      | ((with_reducible refine Ix.ad ?_ ?_ ?_); (focus (exact Rd.ad (by assumption))); (focus (omega)); conv => whnf)
      | (refine Ld.at 0 rfl rfl ?_; conv => whnf)
      | (first | ((apply LdN.rd); (focus ((repeat (first | assumption | apply Rd.cons)); done)); (focus rfl); (focus rfl); (focus (omega)); conv => whnf) | (refine LdN.at 0 rfl (by first | exact Nat.le_of_ble_eq_true rfl | (simp; done)) ?_; conv => whnf))
      | ((with_reducible refine Dr.by (id := 38) Tryz.tysOk rfl [(0, 0), (1, 0), (2, 0), (3, 0), (4, 0), (5, 1), (6, 0), (7, 0), (8, 0), (9, 0), (11, 0), (13, 0), (10, 1), (12, 1), (14, 0), (15, 1), (16, 1), (17, 0), (18, 0)] ?_ ?_); (focus kernel_rfl); conv => whnf)
      | ((with_reducible refine CD.is (fun M => hbd _) ?_); conv => whnf))
    all_goals exact Is.ent (by (refine FEnt.ent ?_; (repeat (first | exact FEnt.rfl | refine FEnt.drop ?_)); done)) (Is.dec ⟨fun h => ⟨hi, h⟩, fun h => h.2⟩)
  · refine con_of Tryz.tysOk Tryz.func19 rfl rfl ?_
    conv => whnf
    repeat' (first
      | (first | ((with_reducible refine Br.tt ?_); conv => whnf) | ((with_reducible refine Br.ff ?_); conv => whnf) | ((with_reducible refine Br.dt ?_ ?_); (focus (first | assumption | omega)); conv => whnf) | ((with_reducible refine Br.df ?_ ?_); (focus (first | assumption | omega)); conv => whnf))
      | ((with_reducible refine Ar.i64 ?_ ?_); (focus omega); conv => whnf)
      | ((with_reducible refine Nc.go' (fun _ => ?_)); conv => whnf)
      | (refine Ld.at 0 rfl rfl ?_; conv => whnf)
      | ((with_reducible refine Dr.by (id := 38) Tryz.tysOk rfl [(0, 0), (1, 0), (2, 0), (3, 0), (4, 0), (5, 1), (6, 0), (7, 0), (8, 0), (9, 0), (11, 0), (13, 0), (10, 1), (12, 1), (14, 0), (15, 1), (16, 1), (17, 0), (18, 0)] ?_ ?_); (focus kernel_rfl); conv => whnf)
      | ((with_reducible refine Br.ds (fun _ => ?_) (fun _ => ?_) ) <;> (conv => whnf)))
    all_goals exact Is.ent (by (refine FEnt.ent ?_; (repeat (first | exact FEnt.rfl | refine FEnt.drop ?_)); done)) (Is.ff (fun h => hi h.1))
theorem Tryz.has10 (C : Cfg) (r : Int) (L : List HP) (hB : CfB C) (hF : frF C) (h0 : 0 ≤ r ∧ r ≤ 32) (hr : Rd clE L C.ca C.xs) (hs : Rd slE L C.sa C.ss) : Con Tryz.prog 19 [cfV C, n64 10, n64 r] L (Is (.bool (decide (inR r C.xs.length ∧ b10 C (r - 1).toNat))) L) := by
  by_cases hi : inR r C.xs.length
  · have hu := fun L h => Tryz.refUnits C r L hB.F.2 (by omega) h
    have e : (((r - 1).toNat : Nat) : Int) + 1 = r := by omega
    refine con_of Tryz.tysOk Tryz.func19 rfl rfl ?_
    conv => whnf
    repeat' (first
      | (first | ((with_reducible refine Br.tt ?_); conv => whnf) | ((with_reducible refine Br.dt ?_ ?_); (focus (first | assumption | omega)); conv => whnf) | ((with_reducible refine Br.df ?_ ?_); (focus (first | assumption | omega)); conv => whnf))
      | ((with_reducible refine Ar.i64 ?_ ?_); (focus omega); conv => whnf)
      | ((with_reducible refine Nc.go' (fun _ => ?_)); conv => whnf)
      | ((with_reducible refine Ix.ad ?_ ?_ ?_); (focus (exact Rd.ad (by assumption))); (focus (omega)); conv => whnf)
      | (first | ((apply Ld.rd); (focus ((repeat (first | assumption | apply Rd.cons)); done)); (focus rfl); (focus (omega)); (focus rfl); conv => whnf) | (refine Ld.at 0 rfl rfl ?_; conv => whnf))
      | (refine LdN.at 0 rfl (by first | exact Nat.le_of_ble_eq_true rfl | (simp; done)) ?_; conv => whnf)
      | ((with_reducible refine Dr.by (id := 47) Tryz.tysOk rfl [(0, 0), (1, 0), (2, 0), (3, 0), (4, 0), (5, 1), (6, 0), (7, 0), (8, 0), (9, 0), (10, 0), (12, 0), (17, 0), (11, 1), (13, 0), (14, 0), (15, 1), (16, 1), (18, 1), (19, 0), (20, 0), (21, 0)] ?_ ?_); (focus kernel_rfl); conv => whnf)
      | ((with_reducible refine CD.is (fun M => hu _ (by ((repeat (first | assumption | apply Rd.cons | apply Rd.app)); done))) ?_); conv => whnf))
    all_goals exact Is.ent (by (refine FEnt.ent ?_; (repeat (first | exact FEnt.rfl | refine FEnt.drop ?_)); done)) (Is.dec ⟨fun h => ⟨hi, by unfold b10; rw [e]; exact h⟩, fun h => by have := h.2; unfold b10 at this; rw [e] at this; exact this⟩)
  · refine con_of Tryz.tysOk Tryz.func19 rfl rfl ?_
    conv => whnf
    repeat' (first
      | (first | ((with_reducible refine Br.tt ?_); conv => whnf) | ((with_reducible refine Br.ff ?_); conv => whnf) | ((with_reducible refine Br.df ?_ ?_); (focus (first | assumption | omega)); conv => whnf))
      | ((with_reducible refine Ar.i64 ?_ ?_); (focus omega); conv => whnf)
      | ((with_reducible refine Nc.go' (fun _ => ?_)); conv => whnf)
      | (refine Ld.at 0 rfl rfl ?_; conv => whnf)
      | ((with_reducible refine Dr.by (id := 47) Tryz.tysOk rfl [(0, 0), (1, 0), (2, 0), (3, 0), (4, 0), (5, 1), (6, 0), (7, 0), (8, 0), (9, 0), (10, 0), (12, 0), (17, 0), (11, 1), (13, 0), (14, 0), (15, 1), (16, 1), (18, 1), (19, 0), (20, 0), (21, 0)] ?_ ?_); (focus kernel_rfl); conv => whnf)
      | ((with_reducible refine Br.ds (fun _ => ?_) (fun _ => ?_) ) <;> (conv => whnf)))
    all_goals exact Is.ent (by (refine FEnt.ent ?_; (repeat (first | exact FEnt.rfl | refine FEnt.drop ?_)); done)) (Is.ff (fun h => hi h.1))
theorem Tryz.has6 (C : Cfg) (r : Int) (L : List HP) (hB : CfB C) (hF : frF C) (h0 : 0 ≤ r ∧ r ≤ 32) (hr : Rd slE L C.wa C.ws) : Con Tryz.prog 19 [cfV C, n64 6, n64 r] L (Is (.bool (decide (r < C.xs.length + 1 ∧ b6 C r.toNat))) L) := by
  have e : ((r.toNat : Nat) : Int) = r := by omega
  refine con_of Tryz.tysOk Tryz.func19 rfl rfl ?_
  conv => whnf
  repeat' (first
    | (first | ((with_reducible refine Br.dt ?_ ?_); (focus (first | assumption | omega)); conv => whnf) | ((with_reducible refine Br.df ?_ ?_); (focus (first | assumption | omega)); conv => whnf))
    | ((with_reducible refine Ar.i64 ?_ ?_); (focus omega); conv => whnf)
    | ((with_reducible refine Nc.go' (fun _ => ?_)); conv => whnf))
  rename_i b3
  conv => whnf
  refine Lp.by Tryz.tysOk [14] (fun (k : Nat) => [.int .i64 k]) (fun k => ptc b3 28 (cfC C) :: L) (fun k => k ≤ C.ws.length ∧ ∀ i, i < k → ¬ (cW C i).1 = r) (fun k => C.ws.length - k) (0) (by kernel_rfl) (by (exact Ent.rfl)) (⟨by omega, fun i h => by omega⟩) ?_
  rintro k ⟨h1, h2⟩
  conv => whnf
  repeat (intro _; conv => whnf)
  by_cases hk : k < C.ws.length
  · by_cases he : (cW C k).1 = r
    · have hno : ¬ b6 C r.toNat := fun h => h ⟨k, hk, by rw [e]; exact he⟩
      simp only [cW] at he
      conv => whnf
      repeat' (first
        | ((with_reducible refine Br.dt ?_ ?_); (focus (first | assumption | omega)); conv => whnf)
        | ((with_reducible refine Ix.ad ?_ ?_ ?_); (focus (exact Rd.ad (by assumption))); (focus (omega)); conv => whnf)
        | (first | ((with_reducible apply Ld.rdk0); (focus ((repeat (first | assumption | apply Rd.cons)); done)); (focus rfl); (focus (omega)); (focus rfl); conv => whnf) | (refine Ld.at 0 rfl rfl ?_; conv => whnf)))
      all_goals exact Is.ent (by (refine FEnt.ent ?_; (repeat (first | exact FEnt.rfl | refine FEnt.drop ?_)); done)) (Is.ff (fun h => hno h.2))
    · have he2 := he
      simp only [cW] at he
      conv => whnf
      repeat' (first
        | (first | ((with_reducible refine Br.dt ?_ ?_); (focus (first | assumption | omega)); conv => whnf) | ((with_reducible refine Br.df ?_ ?_); (focus (first | assumption | omega)); conv => whnf))
        | ((with_reducible refine Ar.i64 ?_ ?_); (focus omega); conv => whnf)
        | ((with_reducible refine Ix.ad ?_ ?_ ?_); (focus (exact Rd.ad (by assumption))); (focus (omega)); conv => whnf)
        | (first | ((with_reducible apply Ld.rdk0); (focus ((repeat (first | assumption | apply Rd.cons)); done)); (focus rfl); (focus (omega)); (focus rfl); conv => whnf) | (refine Ld.at 0 rfl rfl ?_; conv => whnf)))
      refine ⟨k + 1, by kernel_rfl, by (exact Ent.rfl), ⟨by omega, lt_step h2 he2⟩, by omega⟩
  · have hb : b6 C r.toNat := fun ⟨j, hj, hw⟩ => h2 j (by omega) (by rw [e] at hw; exact hw)
    conv => whnf
    repeat' (first
      | ((with_reducible refine Br.df ?_ ?_); (focus (first | assumption | omega)); conv => whnf)
      | (refine Ld.at 0 rfl rfl ?_; conv => whnf))
    all_goals exact Is.ent (by (refine FEnt.ent ?_; (repeat (first | exact FEnt.rfl | refine FEnt.drop ?_)); done)) (Is.dec ⟨fun h => ⟨by omega, hb⟩, fun h => by have := h.1; omega⟩)
theorem Tryz.has7 (C : Cfg) (r : Int) (L : List HP) (hB : CfB C) (hF : frF C) (h0 : 0 ≤ r ∧ r ≤ 32) (hr : Rd slE L C.wa C.ws) : Con Tryz.prog 19 [cfV C, n64 7, n64 r] L (Is (.bool (decide (r = 0 ∧ b7 C))) L) := by
  by_cases hz : r = 0
  · subst hz
    refine con_of Tryz.tysOk Tryz.func19 rfl rfl ?_
    conv => whnf
    repeat' (first
      | (first | ((with_reducible refine Br.dt ?_ ?_); (focus (first | assumption | omega)); conv => whnf) | ((with_reducible refine Br.df ?_ ?_); (focus (first | assumption | omega)); conv => whnf))
      | ((with_reducible refine Ar.i64 ?_ ?_); (focus omega); conv => whnf)
      | ((with_reducible refine Nc.go' (fun _ => ?_)); conv => whnf))
    rename_i b3
    conv => whnf
    refine Lp.by Tryz.tysOk [15] (fun (k : Nat) => [.int .i64 k]) (fun k => ptc b3 28 (cfC C) :: L) (fun k => k ≤ C.ws.length ∧ ∀ i, i < k → ¬ (cW C i).1 = 0) (fun k => C.ws.length - k) (0) (by kernel_rfl) (by (exact Ent.rfl)) (⟨by omega, fun i h => by omega⟩) ?_
    rintro k ⟨h1, h2⟩
    conv => whnf
    repeat (intro _; conv => whnf)
    by_cases hk : k < C.ws.length
    · by_cases he : (cW C k).1 = 0
      · have h7 : b7 C ↔ goodW C (cW C k) ∧ (cW C k).2.2 - (cW C k).2.1 < 2 * C.xs.length := by
          constructor
          · rintro ⟨m, k1, k2, k3, k4⟩
            have e : m = k := by
              rcases Nat.lt_trichotomy m k with h | h | h
              · exact (h2 m h k2).elim
              · exact h
              · exact (k3 k h he).elim
            subst e
            exact k4
          · exact fun h => ⟨k, hk, he, h2, h⟩
        by_cases hg : goodW C (cW C k)
        · have hg2 : 0 ≤ (cW C k).2.1 ∧ (cW C k).2.1 < (cW C k).2.2 ∧ (cW C k).2.2 ≤ C.F := ⟨hg.2.1.1, hg.2.1.2, hg.2.2⟩
          have hng : ¬ ¬ goodW C (cW C k) := fun h => h hg
          simp only [cW] at he hg2
          conv => whnf
          repeat' (first
            | (first | ((with_reducible refine Br.tt ?_); conv => whnf) | ((with_reducible refine Br.nf ?_); conv => whnf) | ((with_reducible refine Br.dt ?_ ?_); (focus (first | assumption | omega)); conv => whnf))
            | ((with_reducible refine Ar.i64 ?_ ?_); (focus omega); conv => whnf)
            | ((with_reducible refine Ix.ad ?_ ?_ ?_); (focus (exact Rd.ad (by assumption))); (focus (omega)); conv => whnf)
            | (first | ((first | (with_reducible apply Ld.rdk) | (with_reducible apply Ld.rdk0)); (focus ((repeat (first | assumption | apply Rd.cons)); done)); (focus rfl); (focus (omega)); (focus rfl); conv => whnf) | (refine Ld.at 0 rfl rfl ?_; conv => whnf))
            | (first | ((with_reducible apply LdN.rdk); (focus ((repeat (first | assumption | apply Rd.cons)); done)); (focus rfl); (focus rfl); (focus (omega)); conv => whnf) | (refine LdN.at 0 rfl (by first | exact Nat.le_of_ble_eq_true rfl | (simp; done)) ?_; conv => whnf))
            | ((with_reducible refine Dr.by (id := 35) Tryz.tysOk rfl [(1, 0), (3, 0), (0, 1), (2, 1), (4, 0), (5, 1), (6, 1), (7, 0), (8, 0), (9, 0), (11, 0), (15, 0), (17, 0), (22, 0), (10, 1), (12, 0), (13, 0), (14, 1), (16, 1), (18, 0), (19, 0), (20, 1), (21, 0), (23, 1), (24, 0), (25, 0), (26, 0), (27, 0), (28, 0)] ?_ ?_); (focus kernel_rfl); conv => whnf)
            | ((with_reducible refine CD.is (fun M => Con.df hng (Tryz.refBadW _ _ _ _ _)) ?_); conv => whnf))
          all_goals exact Is.ent (by (refine FEnt.ent ?_; (repeat (first | exact FEnt.rfl | refine FEnt.drop ?_)); done)) (Is.dec ⟨fun h => ⟨rfl, h7.2 ⟨hg, h⟩⟩, fun h => (h7.1 h.2).2⟩)
        · simp only [cW] at he
          conv => whnf
          repeat' (first
            | (first | ((with_reducible refine Br.tt ?_); conv => whnf) | ((with_reducible refine Br.ff ?_); conv => whnf) | ((with_reducible refine Br.nt ?_); conv => whnf) | ((with_reducible refine Br.dt ?_ ?_); (focus (first | assumption | omega)); conv => whnf))
            | ((with_reducible refine Ix.ad ?_ ?_ ?_); (focus (exact Rd.ad (by assumption))); (focus (omega)); conv => whnf)
            | (first | ((with_reducible apply Ld.rdk0); (focus ((repeat (first | assumption | apply Rd.cons)); done)); (focus rfl); (focus (omega)); (focus rfl); conv => whnf) | (refine Ld.at 0 rfl rfl ?_; conv => whnf))
            | (first | ((with_reducible apply LdN.rdk); (focus ((repeat (first | assumption | apply Rd.cons)); done)); (focus rfl); (focus rfl); (focus (omega)); conv => whnf) | (refine LdN.at 0 rfl (by first | exact Nat.le_of_ble_eq_true rfl | (simp; done)) ?_; conv => whnf))
            | ((with_reducible refine Dr.by (id := 35) Tryz.tysOk rfl [(1, 0), (3, 0), (0, 1), (2, 1), (4, 0), (5, 1), (6, 1), (7, 0), (8, 0), (9, 0), (11, 0), (15, 0), (17, 0), (22, 0), (10, 1), (12, 0), (13, 0), (14, 1), (16, 1), (18, 0), (19, 0), (20, 1), (21, 0), (23, 1), (24, 0), (25, 0), (26, 0), (27, 0), (28, 0)] ?_ ?_); (focus kernel_rfl); conv => whnf)
            | ((with_reducible refine CD.is (fun M => Con.dt hg (Tryz.refBadW _ _ _ _ _)) ?_); conv => whnf))
          all_goals exact Is.ent (by (refine FEnt.ent ?_; (repeat (first | exact FEnt.rfl | refine FEnt.drop ?_)); done)) (Is.ff (fun h => hg (h7.1 h.2).1))
      · have he2 := he
        simp only [cW] at he
        conv => whnf
        repeat' (first
          | (first | ((with_reducible refine Br.tt ?_); conv => whnf) | ((with_reducible refine Br.dt ?_ ?_); (focus (first | assumption | omega)); conv => whnf) | ((with_reducible refine Br.df ?_ ?_); (focus (first | assumption | omega)); conv => whnf))
          | ((with_reducible refine Ar.i64 ?_ ?_); (focus omega); conv => whnf)
          | ((with_reducible refine Ix.ad ?_ ?_ ?_); (focus (exact Rd.ad (by assumption))); (focus (omega)); conv => whnf)
          | (first | ((with_reducible apply Ld.rdk0); (focus ((repeat (first | assumption | apply Rd.cons)); done)); (focus rfl); (focus (omega)); (focus rfl); conv => whnf) | (refine Ld.at 0 rfl rfl ?_; conv => whnf)))
        refine ⟨k + 1, by kernel_rfl, by (exact Ent.rfl), ⟨by omega, lt_step h2 he2⟩, by omega⟩
    · have hno : ¬ b7 C := fun ⟨m, k1, k2, _⟩ => h2 m (by omega) k2
      conv => whnf
      repeat' (first
        | (first | ((with_reducible refine Br.ff ?_); conv => whnf) | ((with_reducible refine Br.df ?_ ?_); (focus (first | assumption | omega)); conv => whnf))
        | (refine Ld.at 0 rfl rfl ?_; conv => whnf))
      all_goals exact Is.ent (by (refine FEnt.ent ?_; (repeat (first | exact FEnt.rfl | refine FEnt.drop ?_)); done)) (Is.ff (fun h => hno h.2))
  · refine con_of Tryz.tysOk Tryz.func19 rfl rfl ?_
    conv => whnf
    repeat' (first
      | (first | ((with_reducible refine Br.dt ?_ ?_); (focus (first | assumption | omega)); conv => whnf) | ((with_reducible refine Br.df ?_ ?_); (focus (first | assumption | omega)); conv => whnf))
      | ((with_reducible refine Ar.i64 ?_ ?_); (focus omega); conv => whnf)
      | ((with_reducible refine Nc.go' (fun _ => ?_)); conv => whnf))
    rename_i b3
    conv => whnf
    refine Lp.by Tryz.tysOk [15] (fun (k : Nat) => [.int .i64 k]) (fun k => ptc b3 28 (cfC C) :: L) (fun k => k = 0) (fun k => 0) (0) (by kernel_rfl) (by (exact Ent.rfl)) (rfl) ?_
    rintro k h1
    conv => whnf
    repeat (intro _; conv => whnf)
    subst h1
    conv => whnf
    repeat' (first
      | (first | ((with_reducible refine Br.tt ?_); conv => whnf) | ((with_reducible refine Br.ff ?_); conv => whnf) | ((with_reducible refine Br.df ?_ ?_); (focus (first | assumption | omega)); conv => whnf))
      | (refine Ld.at 0 rfl rfl ?_; conv => whnf)
      | ((with_reducible refine Br.ds (fun _ => ?_) (fun _ => ?_) ) <;> (conv => whnf)))
    all_goals exact Is.ent (by (refine FEnt.ent ?_; (repeat (first | exact FEnt.rfl | refine FEnt.drop ?_)); done)) (Is.ff (fun h => hz h.1))
end Go.Proofs
