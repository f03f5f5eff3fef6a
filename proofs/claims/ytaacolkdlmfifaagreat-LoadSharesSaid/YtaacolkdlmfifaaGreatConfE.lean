/- A machine's tables: are they right, by the package: contracts. -/
import Derived.Test.YtaacolkdlmfifaaGreatConfD
set_option linter.all false
namespace Go.Proofs
open Go.Eng
open Classical
set_option linter.unusedVariables false
set_option maxRecDepth 100000
set_option maxHeartbeats 2000000
theorem Tryz.confQuota (C : Cfg) (i b : Nat) (A : HP) (L : List HP) (hB : CfB C) (hF : frF C) (hi : i < C.xs.length) (hr : Rd clE L C.ca C.xs) (hr2 : Rd slE L C.sa C.ss) :
    Con Tryz.prog 56 [.int .i64 i, .pointer (some ⟨b, 0, none⟩)] (A :: ptc b 26 (cfC C) :: L) (Is (.bool (decide (b10 C i))) (A :: ptc b 26 (cfC C) :: L)) := by
  have hu := fun L h => Tryz.confUnits C ((i : Int) + 1) L hB.F.2 h
  refine con_of Tryz.tysOk Tryz.func56 rfl rfl ?_
  conv => whnf
  repeat' (first
    | ((with_reducible refine Ar.i64 ?_ ?_); (focus omega); conv => whnf)
    | ((with_reducible refine Ix.ad ?_ ?_ ?_); (focus (exact Rd.ad (by assumption))); (focus (omega)); conv => whnf)
    | (first | ((with_reducible apply Ld.rdk); (focus ((repeat (first | assumption | apply Rd.cons)); done)); (focus rfl); (focus (omega)); (focus rfl); conv => whnf) | (refine Ld.at 1 rfl rfl ?_; conv => whnf))
    | (refine LdN.at 1 rfl (by first | exact Nat.le_of_ble_eq_true rfl | (simp; done)) ?_; conv => whnf)
    | ((with_reducible refine Dr.by (id := 1) Tryz.tysOk rfl [(0, 0), (2, 0), (7, 0), (8, 0), (1, 1), (3, 0), (4, 0), (5, 1), (6, 1), (9, 1), (10, 0), (11, 0)] ?_ ?_); (focus kernel_rfl); conv => whnf)
    | ((with_reducible refine CD.is (fun M => hu _ (by ((repeat (first | assumption | apply Rd.cons | apply Rd.app)); done))) ?_); conv => whnf))
  all_goals exact Is.ent (by (exact Ent.rfl)) (Is.dec Iff.rfl)
theorem Tryz.confClients0 (C : Cfg) (L : List HP) (hB : CfB C) (hF : frF C) (hr : Rd clE L C.ca C.xs) :
    Con Tryz.prog 54 [.slice none 0 0, cfV C] L (Exs flV (fun y => own spE 69 y.1 y.2.1 y.2.2 :: L) (fun y => flOk y 16 [] ((∀ i, i < C.xs.length → ¬ b2 C i) ∧ ∀ i, i < C.xs.length → ¬ b3 C i))) :=
  Con.entl (M := own spE 69 none 0 [] :: L) (by (exact Ent.nil)) (Tryz.confClients C none 0 [] L hB hF (by decide) (Nat.le_refl _) (fun h => (h rfl).elim) hr)
theorem Tryz.confFaults (C : Cfg) (L : List HP) (hB : CfB C) (hw : Rd slE L C.wa C.ws) (hs : Rd slE L C.sa C.ss) (hc : Rd clE L C.ca C.xs) :
    Con Tryz.prog 32 [cfV C] L (Exs flV (fun _ => L) (fun y => y.2.2.length ≤ 200 ∧ (y.2.2 = [] ↔ Right C))) := by
  by_cases hF : frF C
  · have c1 := fun L h => Tryz.confClients0 C L hB hF h
    have c2 := fun a c fs L (hf : fs.length ≤ 500) hc had h => Tryz.confWindows C a c fs L hB hF hf hc had h
    have c3 := fun a c fs L (hf : fs.length ≤ 500) hc had h => Tryz.confSlots C a c fs L hB hF hf hc had h
    have c4 := fun b a c fs (hf : fs.length ≤ 1000) hc' had => Tryz.confRows 10 C.xs.length 56 [.pointer (some ⟨b, 0, none⟩)] (b10 C) a c fs (ptc b 26 (cfC C) :: L) (by omega) hf hc' had (fun i A hi => Tryz.confQuota C i b A L hB hF hi hc hs)
    refine con_of Tryz.tysOk Tryz.func32 rfl rfl ?_
    conv => whnf
    repeat' (first
      | ((with_reducible refine Br.nt ?_); conv => whnf)
      | ((with_reducible refine Nc.go' (fun _ => ?_)); conv => whnf)
      | ((with_reducible refine Fk.mk ?_ ?_) <;> (conv => whnf))
      | (with_reducible exact True.intro)
      | (refine Ld.at 1 rfl rfl ?_; conv => whnf)
      | (first | (refine LdN.at 0 rfl (by first | exact Nat.le_of_ble_eq_true rfl | (simp; done)) ?_; conv => whnf) | (refine LdN.at 1 rfl (by first | exact Nat.le_of_ble_eq_true rfl | (simp; done)) ?_; conv => whnf))
      | ((with_reducible refine Dr.tree (id := 3) Tryz.tysOk rfl (.one 0 1 (.fork 1 3 (.one 2 1 (.fork 3 3 (.one 4 1 (.one 5 3 (.one 6 0 .nil))) (.fork 4 1 (.one 3 3 (.one 5 3 (.one 6 0 .nil))) .nil))) (.fork 2 1 (.fork 1 3 (.fork 3 3 (.one 4 1 (.one 5 3 (.one 6 0 .nil))) (.fork 4 1 (.one 3 3 (.one 5 3 (.one 6 0 .nil))) .nil)) (.fork 4 1 (.one 1 3 (.one 3 3 (.one 5 3 (.one 6 0 .nil)))) .nil)) (.fork 4 1 (.fork 1 3 (.one 2 1 (.one 3 3 (.one 5 3 (.one 6 0 .nil)))) (.fork 2 1 (.one 1 3 (.one 3 3 (.one 5 3 (.one 6 0 .nil)))) .nil)) .nil)))) ?_ _ ?_ (fun _ _ h => h)); (focus kernel_rfl); conv => whnf)
      | (first | ((with_reducible refine Cl.is (Con.dt hF (Tryz.confFrame _ _)) ?_); conv => whnf) | ((with_reducible refine (?_ : Cl _ 54 _ _ _ _)); (refine Cl.exs (c1 _ (by ((repeat (first | assumption | apply Rd.cons)); done))) ?_; rintro ⟨a2, c2', f2⟩ ⟨⟨hl2, he2⟩, hc2, had2⟩); conv => whnf) | ((with_reducible refine (?_ : Cl _ 53 _ _ _ _)); (refine Cl.exs (c2 _ _ _ _ (by dsimp only at *; simp only [List.length_nil] at *; omega) hc2 had2 (by ((repeat (first | assumption | apply Rd.cons)); done))) ?_; rintro ⟨a3, c3', f3⟩ ⟨⟨hl3, he3⟩, hc3, had3⟩); conv => whnf) | ((with_reducible refine (?_ : Cl _ 52 _ _ _ _)); (refine Cl.exs (c3 _ _ _ _ (by dsimp only at *; simp only [List.length_nil] at *; omega) hc3 had3 (by ((repeat (first | assumption | apply Rd.cons)); done))) ?_; rintro ⟨a4, c4', f4⟩ ⟨⟨hl4, he4⟩, hc4, had4⟩); conv => whnf) | ((with_reducible refine (?_ : Cl _ 55 _ _ _ _)); (refine Cl.exs (c4 _ _ _ _ (by dsimp only at *; simp only [List.length_nil] at *; omega) hc4 had4) ?_; rintro ⟨a5, c5', f5⟩ ⟨⟨hl5, he5⟩, hc5, had5⟩); conv => whnf)))
    all_goals (dsimp only at *; simp only [List.length_nil] at *; exact Exs.of ((a5, c5', f5) : Fl) (by (try dsimp only); (refine FEnt.ent ?_; (repeat (first | exact FEnt.rfl | refine FEnt.drop ?_)); done)) ⟨by (try dsimp only); omega, by (try dsimp only); rw [he5, he4, he3, he2]; exact ⟨fun h => ⟨hF, h.1.1.1.2.1, h.1.1.1.2.2, h.1.1.2.1, h.1.1.2.2.1, h.1.1.2.2.2.1, h.1.1.2.2.2.2, h.1.2.1, h.1.2.2, h.2⟩, fun h => ⟨⟨⟨⟨trivial, h.r2, h.r3⟩, h.r4, h.r5, h.r6, h.r7⟩, h.r8, h.r9⟩, h.r10⟩⟩⟩ rfl)
  · refine con_of Tryz.tysOk Tryz.func32 rfl rfl ?_
    conv => whnf
    repeat' (first
      | ((with_reducible refine Br.nf ?_); conv => whnf)
      | ((with_reducible refine Nc.go' (fun _ => ?_)); conv => whnf)
      | (refine LdN.at 0 rfl (by first | exact Nat.le_of_ble_eq_true rfl | (simp; done)) ?_; conv => whnf)
      | ((with_reducible refine Cl.is (Con.df hF (Tryz.confFrame _ _)) ?_); conv => whnf))
    all_goals exact Exs.of ((some ⟨_, 0, none⟩, 1, [(0, 1)]) : Fl) (by (try dsimp only); (refine FEnt.ent ?_; (repeat (first | exact FEnt.rfl | refine FEnt.drop ?_)); done)) ⟨by show 1 ≤ 200; omega, ⟨fun h => absurd h (by simp), fun h => absurd h.f hF⟩⟩ rfl
theorem Tryz.confCheck (C : Cfg) (L : List HP) (hB : CfB C) (hw : Rd slE L C.wa C.ws) (hs : Rd slE L C.sa C.ss) (hc : Rd clE L C.ca C.xs) :
    Con Tryz.prog 20 [cfV C] L (Is (.bool (decide (Right C))) L) := by
  have hf := fun L hw hs hc => Tryz.confFaults C L hB hw hs hc
  refine con_of Tryz.tysOk Tryz.func20 rfl rfl ?_
  conv => whnf
  repeat' (first
    | ((with_reducible refine Nc.go' (fun _ => ?_)); conv => whnf)
    | (refine LdN.at 0 rfl (by first | exact Nat.le_of_ble_eq_true rfl | (simp; done)) ?_; conv => whnf)
    | ((with_reducible refine (?_ : Cl _ 32 _ _ _ _)); (refine Cl.exs (hf _ (by ((repeat (first | assumption | apply Rd.cons)); done)) (by ((repeat (first | assumption | apply Rd.cons)); done)) (by ((repeat (first | assumption | apply Rd.cons)); done))) ?_; rintro ⟨a2, c2, f2⟩ ⟨hl, he⟩); conv => whnf))
  all_goals (dsimp only at he hl; exact Is.ent (by (refine FEnt.ent ?_; (repeat (first | exact FEnt.rfl | refine FEnt.drop ?_)); done)) (Is.dec ⟨fun h => he.1 (List.length_eq_zero_iff.1 (by have := h; dsimp only at this; omega)), fun h => by rw [he.2 h]; rfl⟩))
end Go.Proofs
