/- How long one waits for the bus: contracts. -/
import Derived.Test.YtaacolkdlmfifaaGreatLoad
import Derived.Test.YtaacolkdlmfifaaGreatConfE
import Derived.Test.YtaacolkdlmfifaaGreatConfG
set_option linter.all false
namespace Go.Proofs
open Go.Eng
open Classical
set_option linter.unusedVariables false
set_option maxRecDepth 100000
set_option maxHeartbeats 2000000
theorem right_slots {C : Cfg} (h : Right C) : slOk C.F C.ss C.ss.length := fun i hi => by
  have h8 : goodS C (cS C i) := Classical.byContradiction fun hn => h.r8 i hi hn
  have hf := h.f
  have a1 := h8.1
  have a2 := h8.2.1
  simp only [cS] at a1 a2
  refine ⟨⟨a1.1, by have := a1.2; omega, a2.1.1, a2.1.2, a2.2⟩, fun j hj hm => h.r9 i hi ⟨j, hj, ?_⟩⟩
  simp only [meetP, slP, meetS, isS] at hm
  simp only [meetW, meetS, isS, cS]
  omega
theorem unN_none {C : Cfg} {w : Int} (h : ∀ i, i < C.ss.length → ¬ (cS C i).1 = w) : ∀ k, k ≤ C.ss.length → unN C w k = 0 := by
  intro k
  induction k with
  | zero => intro _; simp [unN]
  | succ k ih =>
    intro hk
    rw [unN_succ (by omega), ih (by omega), if_neg (fun hh => h k (by omega) hh.1)]
    rfl
theorem right_units {C : Cfg} (h : Right C) {w : Int} (hw : 1 ≤ w ∧ w ≤ C.xs.length) : ¬ (docS C.F.toNat C.ss w).length = 0 := by
  intro hd
  have hw1 : (w - 1).toNat < C.xs.length := by omega
  have hq : ¬ b10 C (w - 1).toNat := h.r10 _ hw1
  have hg : goodC (cX C (w - 1).toNat) := Classical.byContradiction fun hn => h.r2 _ hw1 hn
  have hq1 := hg.2.2.1.1
  have e : (((w - 1).toNat : Nat) : Int) + 1 = w := by omega
  unfold b10 at hq
  rw [e] at hq
  unfold unF at hq
  rw [if_pos h.f] at hq
  by_cases hs : ∃ i, i < C.ss.length ∧ (cS C i).1 = w
  · obtain ⟨i, hi, hi1⟩ := hs
    have h8 : goodS C (cS C i) := Classical.byContradiction fun hn => h.r8 i hi hn
    have hm : (cS C i).2.1 ∈ rawS C.ss w := rawS_mem.2 ⟨cS C i, getD_mem hi, hi1, by omega, by have := h8.2.2; omega, by omega⟩
    have hp : (sortI (rawS C.ss w)).Perm (rawS C.ss w) := List.mergeSort_perm _ _
    rw [← hp.mem_iff, starts_eq (right_slots h), List.length_eq_zero_iff.1 hd] at hm
    simp at hm
  · rw [unN_none (fun i hi hn => hs ⟨i, hi, hn⟩) _ (Nat.le_refl _)] at hq
    omega
theorem Tryz.loadTable (C : Cfg) (w : Int) (L : List HP) (hB : CfB C) (hR : Right C) (hw : 1 ≤ w ∧ w ≤ C.xs.length) (h1 : Rd slE L C.wa C.ws) (h2 : Rd slE L C.sa C.ss) (h3 : Rd clE L C.ca C.xs) :
    Con Tryz.prog 14 [cfV C, n64 w] L (Exs (fun y : Nat × Option Addr × Nat => .tuple #[.pointer (some ⟨y.1, 0, none⟩), n64 0]) (fun y => ptc y.1 76 [n64 C.F, .slice y.2.1 C.ss.length y.2.2] :: own slE 58 y.2.1 y.2.2 C.ss :: L) (fun y => C.ss.length ≤ y.2.2 ∧ Ad y.2.1 C.ss.length)) := by
  have hck := fun L h1 h2 h3 => Con.dt hR (Tryz.confCheck C L hB h1 h2 h3)
  have hf := hR.f
  have hnw := fun L h => Tryz.slNewOk C.F C.sa C.sc C.ss L (by omega) ⟨by omega, by omega⟩ (right_slots hR) h
  refine con_of Tryz.tysOk Tryz.func14 rfl rfl ?_
  conv => whnf
  repeat' (first
    | (first | ((with_reducible refine Br.ff ?_); conv => whnf) | ((with_reducible refine Br.nt ?_); conv => whnf) | ((with_reducible refine Br.df ?_ ?_); (focus (first | assumption | omega)); conv => whnf))
    | ((with_reducible refine Nd.mk ?_ ?_); (focus (first | omega | rfl | assumption | (simp; done))); conv => whnf)
    | ((with_reducible refine Nc.go' (fun _ => ?_)); conv => whnf)
    | (refine Ld.at 0 rfl rfl ?_; conv => whnf)
    | (refine LdN.at 0 rfl (by first | exact Nat.le_of_ble_eq_true rfl | (simp; done)) ?_; conv => whnf)
    | (first | ((with_reducible refine Cl.is (hck _ (by ((repeat (first | assumption | apply Rd.cons)); done)) (by ((repeat (first | assumption | apply Rd.cons)); done)) (by ((repeat (first | assumption | apply Rd.cons)); done))) ?_); conv => whnf) | ((with_reducible refine (?_ : Cl _ 28 _ _ _ _)); (refine Cl.exs (hnw _ (by ((repeat (first | assumption | apply Rd.cons)); done))) ?_; rintro ⟨bt, a2, c2⟩ ⟨hc2, had2⟩); conv => whnf)))
  all_goals exact Exs.of ((bt, a2, c2) : Nat × Option Addr × Nat) (by (try dsimp only); (refine FEnt.ent ?_; (repeat (first | exact FEnt.rfl | (refine FEnt.at 0 rfl ?_; (try simp only [List.eraseIdx_cons_zero, List.eraseIdx_cons_succ, List.eraseIdx_zero, List.tail_cons])) | refine FEnt.drop ?_)); done)) ⟨hc2, had2⟩ rfl
theorem Tryz.loadTableNo (C : Cfg) (w : Int) (L : List HP) (hB : CfB C) (hR : ¬ Right C) (h1 : Rd slE L C.wa C.ws) (h2 : Rd slE L C.sa C.ss) (h3 : Rd clE L C.ca C.xs) :
    Con Tryz.prog 14 [cfV C, n64 w] L (Is (.tuple #[.pointer none, n64 11]) L) := by
  have hck := fun L h1 h2 h3 => Con.df hR (Tryz.confCheck C L hB h1 h2 h3)
  refine con_of Tryz.tysOk Tryz.func14 rfl rfl ?_
  conv => whnf
  repeat' (first
    | ((with_reducible refine Br.nf ?_); conv => whnf)
    | ((with_reducible refine Nc.go' (fun _ => ?_)); conv => whnf)
    | (refine LdN.at 0 rfl (by first | exact Nat.le_of_ble_eq_true rfl | (simp; done)) ?_; conv => whnf)
    | ((with_reducible refine Cl.is (hck _ (by ((repeat (first | assumption | apply Rd.cons)); done)) (by ((repeat (first | assumption | apply Rd.cons)); done)) (by ((repeat (first | assumption | apply Rd.cons)); done))) ?_); conv => whnf))
  all_goals (refine Is.ent ?_ ?_; (focus (refine FEnt.ent ?_; (repeat (first | exact FEnt.rfl | refine FEnt.drop ?_)); done)); (exact Is.rfl))
theorem Tryz.loadTableNo2 (C : Cfg) (w : Int) (L : List HP) (hB : CfB C) (hR : Right C) (hw : ¬ (1 ≤ w ∧ w ≤ C.xs.length)) (h1 : Rd slE L C.wa C.ws) (h2 : Rd slE L C.sa C.ss) (h3 : Rd clE L C.ca C.xs) :
    Con Tryz.prog 14 [cfV C, n64 w] L (Is (.tuple #[.pointer none, n64 7]) L) := by
  have hck := fun L h1 h2 h3 => Con.dt hR (Tryz.confCheck C L hB h1 h2 h3)
  refine con_of Tryz.tysOk Tryz.func14 rfl rfl ?_
  conv => whnf
  repeat' (first
    | (first | ((with_reducible refine Br.tt ?_); conv => whnf) | ((with_reducible refine Br.ff ?_); conv => whnf) | ((with_reducible refine Br.nt ?_); conv => whnf) | ((with_reducible refine Br.dt ?_ ?_); (focus (first | assumption | omega)); conv => whnf))
    | ((with_reducible refine Nc.go' (fun _ => ?_)); conv => whnf)
    | (refine Ld.at 0 rfl rfl ?_; conv => whnf)
    | (refine LdN.at 0 rfl (by first | exact Nat.le_of_ble_eq_true rfl | (simp; done)) ?_; conv => whnf)
    | ((with_reducible refine Cl.is (hck _ (by ((repeat (first | assumption | apply Rd.cons)); done)) (by ((repeat (first | assumption | apply Rd.cons)); done)) (by ((repeat (first | assumption | apply Rd.cons)); done))) ?_); conv => whnf)
    | ((with_reducible refine Br.ds (fun _ => ?_) (fun _ => ?_) ) <;> (conv => whnf)))
  all_goals first | (refine Is.ent ?_ ?_; (focus (refine FEnt.ent ?_; (repeat (first | exact FEnt.rfl | refine FEnt.drop ?_)); done)); (exact Is.rfl)) | (exfalso; omega)
theorem Tryz.loadTry (n w o d cw ca : Int) (b7 b3 b9 b10 bt : Nat) (a : Option Addr) (c : Nat) (xs : List Slt) (L : List HP) (hl : xs.length ≤ 32) (hn : 0 < n ∧ n ≤ 4096) (hok : slOk n xs xs.length) (had : Ad a xs.length) (ho : 0 ≤ o ∧ o < n) (hd : 0 ≤ d ∧ d < n) (hc : -1 ≤ cw ∧ cw ≤ 4096) (hT : NthP ((sortI (rawS xs w)).map offP) n o 1 (o + d)) (q : Int × Int) (hq : q = if cw < d ∨ (d = cw ∧ o < ca) then (d, o) else (cw, ca)) :
    Con Tryz.prog 16 [n64 o, .pointer (some ⟨b7, 0, none⟩), .pointer (some ⟨b3, 0, none⟩), .pointer (some ⟨b9, 0, none⟩), .pointer (some ⟨b10, 0, none⟩)]
      (ptc b9 3 [n64 cw] :: ptc b10 3 [n64 ca] :: ptc b7 49 [.pointer (some ⟨bt, 0, none⟩)] :: ptc b3 3 [n64 w] :: ptc bt 76 [n64 n, .slice a xs.length c] :: own slE 58 a c xs :: L)
      (Is (.tuple #[]) (ptc b9 3 [n64 q.1] :: ptc b10 3 [n64 q.2] :: ptc b7 49 [.pointer (some ⟨bt, 0, none⟩)] :: ptc b3 3 [n64 w] :: ptc bt 76 [n64 n, .slice a xs.length c] :: own slE 58 a c xs :: L)) := by
  have hnx := fun L => Tryz.slNext bt n o w (o + d) a c xs L (by omega) hn hok had ⟨ho.1, by omega⟩ hT
  have e : o + d - o = d := by omega
  by_cases h : cw < d ∨ (d = cw ∧ o < ca)
  · rw [if_pos h] at hq
    subst hq
    rw [show (n64 ((d, o) : Int × Int).1) = n64 (o + d - o) from by rw [e]]
    dsimp only
    refine con_of Tryz.tysOk Tryz.func16 rfl rfl ?_
    conv => whnf
    repeat' (first
      | (first | ((with_reducible refine Br.tt ?_); conv => whnf) | ((with_reducible refine Br.ff ?_); conv => whnf) | ((with_reducible refine Br.dt ?_ ?_); (focus (first | assumption | omega)); conv => whnf))
      | ((with_reducible refine Ar.i64 ?_ ?_); (focus omega); conv => whnf)
      | ((with_reducible refine Nd.mk ?_ ?_); (focus (first | omega | rfl | assumption | (simp; done))); conv => whnf)
      | (first | (refine Ld.at 2 rfl rfl ?_; conv => whnf) | (refine Ld.at 3 rfl rfl ?_; conv => whnf))
      | (first | (refine St.at 2 rfl (by first | exact Nat.le_of_ble_eq_true rfl | (simp; done)) rfl ?_; conv => whnf) | (refine St.at 3 rfl (by first | exact Nat.le_of_ble_eq_true rfl | (simp; done)) rfl ?_; conv => whnf))
      | ((refine Cl.isAt2 4 4 rfl rfl (hnx _) ?_); conv => whnf)
      | ((with_reducible refine Br.ds (fun _ => ?_) (fun _ => ?_) ) <;> (conv => whnf)))
    all_goals first | (refine Is.ent ?_ ?_; (focus (refine FEnt.ent ?_; (repeat (first | exact FEnt.rfl | (refine FEnt.at 2 rfl ?_; (try simp only [List.eraseIdx_cons_zero, List.eraseIdx_cons_succ, List.eraseIdx_zero, List.tail_cons])))); done)); (exact Is.rfl)) | (exfalso; omega)
  · rw [if_neg h] at hq
    subst hq
    refine con_of Tryz.tysOk Tryz.func16 rfl rfl ?_
    conv => whnf
    repeat' (first
      | (first | ((with_reducible refine Br.tt ?_); conv => whnf) | ((with_reducible refine Br.ff ?_); conv => whnf) | ((with_reducible refine Br.df ?_ ?_); (focus (first | assumption | omega)); conv => whnf))
      | ((with_reducible refine Ar.i64 ?_ ?_); (focus omega); conv => whnf)
      | (first | (refine Ld.at 2 rfl rfl ?_; conv => whnf) | (refine Ld.at 3 rfl rfl ?_; conv => whnf))
      | ((refine Cl.isAt2 4 4 rfl rfl (hnx _) ?_); conv => whnf)
      | ((with_reducible refine Br.ds (fun _ => ?_) (fun _ => ?_) ) <;> (conv => whnf)))
    all_goals first | (refine Is.ent ?_ ?_; (focus (refine FEnt.ent ?_; (repeat (first | exact FEnt.rfl | (refine FEnt.at 2 rfl ?_; (try simp only [List.eraseIdx_cons_zero, List.eraseIdx_cons_succ, List.eraseIdx_zero, List.tail_cons])))); done)); (exact Is.rfl)) | (exfalso; omega)
end Go.Proofs
