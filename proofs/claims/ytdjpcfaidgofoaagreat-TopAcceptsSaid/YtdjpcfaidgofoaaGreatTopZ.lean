/- A machine runs six ticks: contracts. -/
import Derived.Test.YtdjpcfaidgofoaaGreatTopX
set_option linter.all false
namespace Go.Proofs
open Go.Eng
set_option linter.unusedVariables false
set_option maxRecDepth 100000
set_option maxHeartbeats 8000000
theorem mq0_open : opnF mq0 = mq0 := rfl
theorem mq0_V : mq0.V = zeros 64 := rfl
/-- all of a machine of one client -/
abbrev Tryz.mcA (C : Cfg) (bx bm bs bl bp ba : Nat) (b' bu mu l f bn mn p g bk be : Nat) (d0 : Dsk) (R : List Dsk) (y : Qu) (t : Int) (P : Nat → Value) (pp : Nat) (q : Mch) (ta : Option Addr) (tc : Nat) (ms : List Mk6) (L : List HP) : List HP :=
  Tryz.mcH C bx bm b' bs bl bp t P pp q ta tc ms (Tryz.srvP bs bp bm b' ba d0 R y :: Tryz.devH (dv1 b' bu mu l f bn mn p g bk be) :: Tryz.quH y :: L)
theorem Tryz.mchIdle (C : Cfg) (bx bm bs bl bp ba : Nat) (b' bu mu l f bn mn p g bk be : Nat) (d0 : Dsk) (R : List Dsk) (y : Qu) (t : Int) (P : Nat → Value) (pp : Nat) (q : Mch) (ta : Option Addr) (tc : Nat) (ms : List Mk6) (L : List HP) (hC : isC0 C) (ht : 0 ≤ t ∧ t < 4)
    (hsv : ∀ L, Con Tryz.prog 84 [pV bs, n64 t] (Tryz.srvP bs bp bm b' ba d0 R y :: Tryz.quH y :: Tryz.plnH C bp :: Tryz.memH bm mem0 :: L) (Is (.slice none 0 0) (Tryz.srvP bs bp bm b' ba d0 R y :: Tryz.quH y :: Tryz.plnH C bp :: Tryz.memH bm mem0 :: L))) :
    Con Tryz.prog 38 [pV bx, .slice none 0 0] (Tryz.mcA C bx bm bs bl bp ba b' bu mu l f bn mn p g bk be d0 R y t P pp q ta tc ms L) (Is (n64 0) (Tryz.mcA C bx bm bs bl bp ba b' bu mu l f bn mn p g bk be d0 R y (t + 1) P pp q ta tc ms L)) := by
  have hop := fun L => Tryz.plnOpens C bp t L hC (by omega)
  rw [if_neg (by rw [decide_eq_true_iff]; omega)] at hop
  have hrn := fun L => Tryz.plnRuns C bp t L hC (by omega)
  rw [if_neg (by rw [decide_eq_true_iff]; omega)] at hrn
  clear hC
  unfold Tryz.mcA Tryz.mcH
  generalize mem0 = Z at *
  generalize dv1 b' bu mu l f bn mn p g bk be = D at *
  refine con_of Tryz.tysOk Tryz.func38 rfl rfl ?_
  conv => whnf
  repeat' (first
    | (first | ((with_reducible refine Br.sn ?_); conv => whnf) | ((with_reducible refine Br.df ?_ ?_); (focus (first | assumption | omega)); conv => whnf))
    | (refine Ld.at 0 rfl rfl ?_; conv => whnf))
  all_goals try (exfalso; omega)
  refine Lp.unr 1 (LpU.step Tryz.tysOk ?_)
  conv => whnf
  repeat' (first
    | ((with_reducible refine Br.df ?_ ?_); (focus (first | assumption | omega)); conv => whnf)
    | (refine Ld.at 0 rfl rfl ?_; conv => whnf)
    | ((with_reducible refine Dr.by (id := 11) Tryz.tysOk rfl [(0, 0), (1, 0), (2, 0), (4, 0), (5, 0), (6, 0), (3, 1), (7, 1), (8, 3), (9, 0)] ?_ ?_); (focus kernel_rfl); conv => whnf)
    | ((with_reducible refine Dr.by (id := 14) Tryz.tysOk rfl [(0, 0), (1, 0), (2, 0), (3, 0), (5, 0), (6, 0), (7, 0), (11, 0), (4, 1), (8, 1), (9, 3), (10, 0)] ?_ ?_); (focus kernel_rfl); conv => whnf)
    | (first | ((refine Cl.isAt 2 rfl (hop _) ?_); conv => whnf) | (apply (Cl.pre [Tryz.srvP _ _ _ _ _ _ _ _, Tryz.quH _, Tryz.plnH _ _, Tryz.memH _ _]); (focus (repeat (first | exact FEnt.rfl | (refine FEnt.at 1 rfl ?_; (try simp only [List.eraseIdx_cons_zero, List.eraseIdx_cons_succ, List.eraseIdx_zero, List.tail_cons])) | (refine FEnt.at 2 rfl ?_; (try simp only [List.eraseIdx_cons_zero, List.eraseIdx_cons_succ, List.eraseIdx_zero, List.tail_cons])) | (refine FEnt.at 6 rfl ?_; (try simp only [List.eraseIdx_cons_zero, List.eraseIdx_cons_succ, List.eraseIdx_zero, List.tail_cons])) | (refine FEnt.at 7 rfl ?_; (try simp only [List.eraseIdx_cons_zero, List.eraseIdx_cons_succ, List.eraseIdx_zero, List.tail_cons])))); done); refine Cl.is (hsv _) ?_; conv => whnf)))
  all_goals try (exfalso; omega)
  refine Lp.unr 1 (LpU.step Tryz.tysOk ?_)
  conv => whnf
  repeat' (first
    | ((with_reducible refine Br.df ?_ ?_); (focus (first | assumption | omega)); conv => whnf)
    | ((with_reducible refine Ar.i64 ?_ ?_); (focus omega); conv => whnf)
    | ((with_reducible refine Nd.mk ?_ ?_); (focus (first | omega | rfl | assumption | (simp; done))); conv => whnf)
    | (refine Ld.at 4 rfl rfl ?_; conv => whnf)
    | (refine St.at 4 rfl (by first | exact Nat.le_of_ble_eq_true rfl | (simp; done)) rfl ?_; conv => whnf)
    | ((with_reducible refine Dr.by (id := 19) Tryz.tysOk rfl [(0, 0), (1, 0), (2, 0), (4, 0), (5, 0), (6, 0), (3, 1), (7, 1), (8, 3), (9, 0)] ?_ ?_); (focus kernel_rfl); conv => whnf)
    | ((refine Cl.isAt 2 rfl (hrn _) ?_); conv => whnf))
  all_goals try (exfalso; omega)
  all_goals (refine Is.ent ?_ ?_; (focus (refine FEnt.ent ?_; (repeat (first | exact FEnt.rfl | (refine FEnt.at 0 rfl ?_; (try simp only [List.eraseIdx_cons_zero, List.eraseIdx_cons_succ, List.eraseIdx_zero, List.tail_cons])) | (refine FEnt.at 1 rfl ?_; (try simp only [List.eraseIdx_cons_zero, List.eraseIdx_cons_succ, List.eraseIdx_zero, List.tail_cons])) | (refine FEnt.at 2 rfl ?_; (try simp only [List.eraseIdx_cons_zero, List.eraseIdx_cons_succ, List.eraseIdx_zero, List.tail_cons])) | (refine FEnt.at 3 rfl ?_; (try simp only [List.eraseIdx_cons_zero, List.eraseIdx_cons_succ, List.eraseIdx_zero, List.tail_cons])) | (refine FEnt.at 4 rfl ?_; (try simp only [List.eraseIdx_cons_zero, List.eraseIdx_cons_succ, List.eraseIdx_zero, List.tail_cons])))); done)); (exact Is.rfl))
theorem Tryz.mchStep5 (C : Cfg) (bx bm bs bl bp ba : Nat) (b' bu mu l f bn mn p g bk be : Nat) (d0 : Dsk) (R : List Dsk) (y : Qu) (P : Nat → Value) (pp : Nat) (ta : Option Addr) (tc : Nat) (ms : List Mk6) (L : List HP) (hC : isC0 C) (hn : ms.length ≤ 80) (hc : ms.length ≤ tc) (had : Ad ta ms.length) :
    Con Tryz.prog 38 [pV bx, .slice none 0 0] (Tryz.mcA C bx bm bs bl bp ba b' bu mu l f bn mn p g bk be d0 R y 5 P pp mq1 ta tc ms L)
      (Exs (fun _ : Option Addr × Nat => n64 0) (fun z => Tryz.mcA C bx bm bs bl bp ba b' bu mu l f bn mn p g bk be d0 R y 6 P pp mq1 z.1 z.2 (ms ++ []) L) (fun z => (ms ++ []).length ≤ z.2 ∧ Ad z.1 (ms ++ []).length)) := by
  have hop := fun L => Tryz.plnOpens C bp 5 L hC (by omega)
  rw [if_neg (by decide)] at hop
  have hrn := fun L => Tryz.plnRuns C bp 5 L hC (by omega)
  rw [if_pos (by decide)] at hrn
  have hsv := fun L => Tryz.srvTickNo C bs bp bm b' ba d0 R y 5 L hC (by omega)
  have hru := fun L => Tryz.mchRun1 C bx bm bs bl bp ba b' bu mu l f bn mn p g bk be d0 R y 5 P pp mq1 mq1 [] ta tc ms L hC (by omega) (by omega) hc had mq1_ok mq1_V mq1_V (by decide) (mq1_pst _)
  clear hC
  unfold Tryz.mcA Tryz.mcH
  unfold Tryz.mcH at hru
  generalize mem0 = Z at *
  generalize dv1 b' bu mu l f bn mn p g bk be = D at *
  generalize mq1 = q at *
  generalize ms ++ [] = ms' at *
  refine con_of Tryz.tysOk Tryz.func38 rfl rfl ?_
  conv => whnf
  repeat' (first
    | (first | ((with_reducible refine Br.sn ?_); conv => whnf) | ((with_reducible refine Br.df ?_ ?_); (focus (first | assumption | omega)); conv => whnf))
    | (refine Ld.at 0 rfl rfl ?_; conv => whnf))
  all_goals try (exfalso; omega)
  refine Lp.unr 1 (LpU.step Tryz.tysOk ?_)
  conv => whnf
  repeat' (first
    | ((with_reducible refine Br.df ?_ ?_); (focus (first | assumption | omega)); conv => whnf)
    | (refine Ld.at 0 rfl rfl ?_; conv => whnf)
    | ((with_reducible refine Dr.by (id := 11) Tryz.tysOk rfl [(0, 0), (1, 0), (2, 0), (4, 0), (5, 0), (6, 0), (3, 1), (7, 1), (8, 3), (9, 0)] ?_ ?_); (focus kernel_rfl); conv => whnf)
    | ((with_reducible refine Dr.by (id := 14) Tryz.tysOk rfl [(0, 0), (1, 0), (2, 0), (3, 0), (5, 0), (6, 0), (7, 0), (11, 0), (4, 1), (8, 1), (9, 3), (10, 0)] ?_ ?_); (focus kernel_rfl); conv => whnf)
    | (first | ((refine Cl.isAt 2 rfl (hop _) ?_); conv => whnf) | (apply (Cl.pre [Tryz.srvP _ _ _ _ _ _ _ _, Tryz.quH _, Tryz.plnH _ _, Tryz.memH _ _]); (focus (repeat (first | exact FEnt.rfl | (refine FEnt.at 1 rfl ?_; (try simp only [List.eraseIdx_cons_zero, List.eraseIdx_cons_succ, List.eraseIdx_zero, List.tail_cons])) | (refine FEnt.at 2 rfl ?_; (try simp only [List.eraseIdx_cons_zero, List.eraseIdx_cons_succ, List.eraseIdx_zero, List.tail_cons])) | (refine FEnt.at 6 rfl ?_; (try simp only [List.eraseIdx_cons_zero, List.eraseIdx_cons_succ, List.eraseIdx_zero, List.tail_cons])) | (refine FEnt.at 7 rfl ?_; (try simp only [List.eraseIdx_cons_zero, List.eraseIdx_cons_succ, List.eraseIdx_zero, List.tail_cons])))); done); refine Cl.is (hsv _) ?_; conv => whnf)))
  all_goals try (exfalso; omega)
  refine Lp.unr 1 (LpU.step Tryz.tysOk ?_)
  conv => whnf
  repeat' (first
    | (first | ((with_reducible refine Br.dt ?_ ?_); (focus (first | assumption | omega)); conv => whnf) | ((with_reducible refine Br.df ?_ ?_); (focus (first | assumption | omega)); conv => whnf))
    | ((with_reducible refine Ar.i64 ?_ ?_); (focus omega); conv => whnf)
    | ((with_reducible refine Nd.mk ?_ ?_); (focus (first | omega | rfl | assumption | (simp; done))); conv => whnf)
    | (first | (refine Ld.at 0 rfl rfl ?_; conv => whnf) | (refine Ld.at 4 rfl rfl ?_; conv => whnf))
    | (refine St.at 0 rfl (by first | exact Nat.le_of_ble_eq_true rfl | (simp; done)) rfl ?_; conv => whnf)
    | ((with_reducible refine Dr.by (id := 19) Tryz.tysOk rfl [(0, 0), (1, 0), (2, 0), (4, 0), (5, 0), (6, 0), (3, 1), (7, 1), (8, 3), (9, 0)] ?_ ?_); (focus kernel_rfl); conv => whnf)
    | (first | ((refine Cl.isAt 2 rfl (hrn _) ?_); conv => whnf) | ((with_reducible refine (?_ : Cl _ 86 _ _ _ _)); (apply Cl.pre [ptc bx _ _, Tryz.memH _ _, Tryz.plnH _ _, ptc bl _ _, ptc pp _ _, own markE _ ta tc ms, Tryz.srvP _ _ _ _ _ _ _ _, Tryz.devH _]; (focus (repeat (first | exact FEnt.rfl | (refine FEnt.at 0 rfl ?_; (try simp only [List.eraseIdx_cons_zero, List.eraseIdx_cons_succ, List.eraseIdx_zero, List.tail_cons])) | (refine FEnt.at 1 rfl ?_; (try simp only [List.eraseIdx_cons_zero, List.eraseIdx_cons_succ, List.eraseIdx_zero, List.tail_cons])) | (refine FEnt.at 2 rfl ?_; (try simp only [List.eraseIdx_cons_zero, List.eraseIdx_cons_succ, List.eraseIdx_zero, List.tail_cons])) | (refine FEnt.at 3 rfl ?_; (try simp only [List.eraseIdx_cons_zero, List.eraseIdx_cons_succ, List.eraseIdx_zero, List.tail_cons])) | (refine FEnt.at 4 rfl ?_; (try simp only [List.eraseIdx_cons_zero, List.eraseIdx_cons_succ, List.eraseIdx_zero, List.tail_cons])))); done); refine Cl.exs (hru _) ?_; rintro ⟨za, zc⟩ ⟨hz1, hz2⟩); conv => whnf)))
  all_goals try (exfalso; omega)
  all_goals exact Exs.of ((za, zc) : Option Addr × Nat) (by (try dsimp only); (exact Ent.rfl)) ⟨hz1, hz2⟩ rfl
theorem Tryz.mchStep4 (C : Cfg) (bx bm bs bl bp ba : Nat) (b' bu mu l f bn mn p g bk be : Nat) (d0 : Dsk) (R : List Dsk) (y : Qu) (P : Nat → Value) (pp : Nat) (L : List HP) (hC : isC0 C) :
    Con Tryz.prog 38 [pV bx, .slice none 0 0] (Tryz.mcA C bx bm bs bl bp ba b' bu mu l f bn mn p g bk be d0 R y 4 P pp mq0 none 0 [] L)
      (Exs (fun _ : (Option Addr × Nat) × List Mk6 => n64 0) (fun z => Tryz.mcA C bx bm bs bl bp ba b' bu mu l f bn mn p g bk be d0 R y 5 P pp mq1 z.1.1 z.1.2 z.2 L) (fun z => z.2.length = 2 ∧ z.2.length ≤ z.1.2 ∧ Ad z.1.1 z.2.length)) := by
  have hop := fun L => Tryz.plnOpens C bp 4 L hC (by omega)
  rw [if_pos (by decide)] at hop
  have hrn := fun L => Tryz.plnRuns C bp 4 L hC (by omega)
  rw [if_pos (by decide)] at hrn
  have hsv := fun L => Tryz.srvTick4 C bs bp bm b' ba d0 R y L hC
  have hopn := fun L => Tryz.mchOpen C bx bm b' bs bl bp 4 P pp mq0 none 0 [] L (by rw [hC.2.2.2]; rfl) (by decide) (by decide) (fun h => absurd rfl h) mq0_V
  rw [mq0_open] at hopn
  have hl1 : (([] : List Mk6) ++ opnL mq0 4 0).length = 1 := by unfold opnL; rw [if_pos rfl]; rfl
  generalize ([] : List Mk6) ++ opnL mq0 4 0 = m1 at *
  have hru := fun ta tc L (hc : m1.length ≤ tc) (had : Ad ta m1.length) => Tryz.mchRun1 C bx bm bs bl bp ba b' bu mu l f bn mn p g bk be d0 R y 4 P pp mq0 mq1 [(4, 4, 0, 0, 0, ⟨#[]⟩)] ta tc m1 L hC (by omega) (by omega) hc had mq0_ok mq0_V mq1_V (by decide) (mq0_pst _)
  have hl2 : (m1 ++ [((4, 4, 0, 0, 0, ⟨#[]⟩) : Mk6)]).length = 2 := by rw [List.length_append, hl1]; rfl
  clear hC
  unfold Tryz.mcA Tryz.mcH
  unfold Tryz.mcH at hru hopn
  generalize mem0 = Z at *
  generalize dv1 b' bu mu l f bn mn p g bk be = D at *
  generalize mq1 = q1 at *
  generalize mq0 = q0 at *
  generalize m1 ++ [((4, 4, 0, 0, 0, ⟨#[]⟩) : Mk6)] = m2 at *
  refine con_of Tryz.tysOk Tryz.func38 rfl rfl ?_
  conv => whnf
  repeat' (first
    | (first | ((with_reducible refine Br.sn ?_); conv => whnf) | ((with_reducible refine Br.df ?_ ?_); (focus (first | assumption | omega)); conv => whnf))
    | (refine Ld.at 0 rfl rfl ?_; conv => whnf))
  all_goals try (exfalso; omega)
  refine Lp.unr 1 (LpU.step Tryz.tysOk ?_)
  conv => whnf
  repeat' (first
    | (first | ((with_reducible refine Br.dt ?_ ?_); (focus (first | assumption | omega)); conv => whnf) | ((with_reducible refine Br.df ?_ ?_); (focus (first | assumption | omega)); conv => whnf))
    | (refine Ld.at 0 rfl rfl ?_; conv => whnf)
    | ((with_reducible refine Dr.by (id := 11) Tryz.tysOk rfl [(0, 0), (1, 0), (2, 0), (4, 0), (5, 0), (6, 0), (3, 1), (7, 1), (8, 3), (9, 0)] ?_ ?_); (focus kernel_rfl); conv => whnf)
    | ((with_reducible refine Dr.by (id := 14) Tryz.tysOk rfl [(0, 0), (1, 0), (2, 0), (3, 0), (5, 0), (6, 0), (7, 0), (11, 0), (4, 1), (8, 1), (9, 3), (10, 0)] ?_ ?_); (focus kernel_rfl); conv => whnf)
    | (first | ((refine Cl.isAt 2 rfl (hop _) ?_); conv => whnf) | ((with_reducible refine (?_ : Cl _ 83 _ _ _ _)); (apply Cl.pre [ptc bx _ _, Tryz.memH _ _, Tryz.plnH _ _, ptc bl _ _, ptc pp _ _, own markE _ none 0 []]; (focus (repeat (exact FEnt.rfl)); done); refine Cl.exs (hopn _) ?_; rintro ⟨ya, yc⟩ ⟨hy1, hy2⟩; dsimp only at hy1 hy2 ⊢); conv => whnf) | (apply (Cl.pre [Tryz.srvP _ _ _ _ _ _ _ _, Tryz.quH _, Tryz.plnH _ _, Tryz.memH _ _]); (focus (repeat (first | exact FEnt.rfl | (refine FEnt.at 1 rfl ?_; (try simp only [List.eraseIdx_cons_zero, List.eraseIdx_cons_succ, List.eraseIdx_zero, List.tail_cons])) | (refine FEnt.at 2 rfl ?_; (try simp only [List.eraseIdx_cons_zero, List.eraseIdx_cons_succ, List.eraseIdx_zero, List.tail_cons])) | (refine FEnt.at 6 rfl ?_; (try simp only [List.eraseIdx_cons_zero, List.eraseIdx_cons_succ, List.eraseIdx_zero, List.tail_cons])) | (refine FEnt.at 7 rfl ?_; (try simp only [List.eraseIdx_cons_zero, List.eraseIdx_cons_succ, List.eraseIdx_zero, List.tail_cons])))); done); refine Cl.is (hsv _) ?_; conv => whnf)))
  all_goals try (exfalso; omega)
  refine Lp.unr 1 (LpU.step Tryz.tysOk ?_)
  conv => whnf
  repeat' (first
    | (first | ((with_reducible refine Br.dt ?_ ?_); (focus (first | assumption | omega)); conv => whnf) | ((with_reducible refine Br.df ?_ ?_); (focus (first | assumption | omega)); conv => whnf))
    | ((with_reducible refine Ar.i64 ?_ ?_); (focus omega); conv => whnf)
    | ((with_reducible refine Nd.mk ?_ ?_); (focus (first | omega | rfl | assumption | (simp; done))); conv => whnf)
    | (first | (refine Ld.at 0 rfl rfl ?_; conv => whnf) | (refine Ld.at 4 rfl rfl ?_; conv => whnf))
    | (refine St.at 0 rfl (by first | exact Nat.le_of_ble_eq_true rfl | (simp; done)) rfl ?_; conv => whnf)
    | ((with_reducible refine Dr.by (id := 19) Tryz.tysOk rfl [(0, 0), (1, 0), (2, 0), (4, 0), (5, 0), (6, 0), (3, 1), (7, 1), (8, 3), (9, 0)] ?_ ?_); (focus kernel_rfl); conv => whnf)
    | (first | ((refine Cl.isAt 2 rfl (hrn _) ?_); conv => whnf) | ((with_reducible refine (?_ : Cl _ 86 _ _ _ _)); (apply Cl.pre [ptc bx _ _, Tryz.memH _ _, Tryz.plnH _ _, ptc bl _ _, ptc pp _ _, own markE _ ya yc m1, Tryz.srvP _ _ _ _ _ _ _ _, Tryz.devH _]; (focus (repeat (first | exact FEnt.rfl | (refine FEnt.at 0 rfl ?_; (try simp only [List.eraseIdx_cons_zero, List.eraseIdx_cons_succ, List.eraseIdx_zero, List.tail_cons])) | (refine FEnt.at 1 rfl ?_; (try simp only [List.eraseIdx_cons_zero, List.eraseIdx_cons_succ, List.eraseIdx_zero, List.tail_cons])) | (refine FEnt.at 2 rfl ?_; (try simp only [List.eraseIdx_cons_zero, List.eraseIdx_cons_succ, List.eraseIdx_zero, List.tail_cons])) | (refine FEnt.at 3 rfl ?_; (try simp only [List.eraseIdx_cons_zero, List.eraseIdx_cons_succ, List.eraseIdx_zero, List.tail_cons])) | (refine FEnt.at 4 rfl ?_; (try simp only [List.eraseIdx_cons_zero, List.eraseIdx_cons_succ, List.eraseIdx_zero, List.tail_cons])))); done); refine Cl.exs (hru _ _ _ hy1 hy2) ?_; rintro ⟨za, zc⟩ ⟨hz1, hz2⟩); conv => whnf)))
  all_goals try (exfalso; omega)
  all_goals exact Exs.of (((za, zc), m2) : (Option Addr × Nat) × List Mk6) (by (try dsimp only); (exact Ent.rfl)) ⟨hl2, hz1, hz2⟩ rfl
end Go.Proofs
set_option linter.all false
namespace Go.Eng
open Go
theorem FEnt.open1 {β : Type} {H : β → HP} {x : β} {L M : List HP} (i : Nat) (hi : L[i]? = some (bigH H [x])) (h : FEnt (H x :: L.eraseIdx i) M) : FEnt L M := fun K w s => by
  have hp : (K ++ L).Perm (bigH H [x] :: (K ++ L.eraseIdx i)) := ((perm_at L i hi).append_left K).trans List.perm_middle
  have s2 := Ent.big1 w (s.perm hp)
  exact h K w (s2.perm List.perm_middle.symm)
end Go.Eng
namespace Go.Proofs
open Go.Eng
set_option linter.unusedVariables false
set_option maxRecDepth 100000
set_option maxHeartbeats 8000000
/-- all that a machine of one client is made of -/
structure Mw where
  C : Cfg
  bx : Nat
  bm : Nat
  bs : Nat
  bl : Nat
  bp : Nat
  ba : Nat
  bd : Nat
  bu : Nat
  mu : Nat
  l : Nat
  f : Nat
  bn : Nat
  mn : Nat
  p : Nat
  g : Nat
  bk : Nat
  be : Nat
  d0 : Dsk
  R : List Dsk
  y : Qu
  P : Nat → Value
  pp : Nat
abbrev Tryz.mwP (w : Mw) (t : Int) (q : Mch) (ta : Option Addr) (tc : Nat) (ms : List Mk6) (L : List HP) : List HP := Tryz.mcA w.C w.bx w.bm w.bs w.bl w.bp w.ba w.bd w.bu w.mu w.l w.f w.bn w.mn w.p w.g w.bk w.be w.d0 w.R w.y t w.P w.pp q ta tc ms L
theorem one_of {α : Type} {xs : List α} (d : α) (h : xs.length = 1) : xs = [xs.getD 0 d] := by
  obtain ⟨x, rfl⟩ := List.length_eq_one_iff.1 h
  rfl
theorem two_of {α : Type} {xs : List α} (d : α) (h : 2 ≤ xs.length) : xs = xs.getD 0 d :: xs.getD 1 d :: xs.drop 2 := by
  match xs, h with
  | a :: b :: r, _ => rfl
theorem Tryz.mz_ent {s : ByteArray} {z : Mz} (h : MzOk s z) (hC : isC0 z.C) : ∃ w : Mw, w.bx = z.b ∧ isC0 w.C ∧ ∀ L, Ent (Tryz.mchP z ++ L) (Tryz.mwP w 0 mq0 none 0 [] L) := by
  obtain ⟨C, b, bm, bs, bl, bp, ba, D, ds, qs, P, ps⟩ := z
  obtain ⟨-, hR, ⟨⟨u1, u2⟩, n1, n2⟩, ⟨k1, k2, k3⟩, p1, p2⟩ := h
  dsimp only at *
  have hx : C.xs.length = 1 := by rw [hC.2.2.2]; rfl
  have hcx : cX C 0 = cl0 := by show C.xs.getD 0 clE.d = _; rw [hC.2.2.2]; rfl
  rw [hx] at u1 u2 n1 n2 k2 k3 p1 p2
  obtain ⟨bd, ⟨bu, mu, us⟩, ⟨bn, mn, ns⟩, bk, be⟩ := D
  dsimp only at u1 u2 n1 n2
  have u3 := u2 0 (by omega)
  have n3 := n2 0 (by omega)
  obtain ⟨k4, k5⟩ := k3 0 (by omega)
  obtain ⟨p3, p4⟩ := p2 0 (by omega)
  have eu := one_of lnD u1
  have en := one_of lnD n1
  have eq := one_of quD k2
  have ep := one_of ptD p1
  have ed := two_of dsD (show 2 ≤ ds.length by omega)
  unfold linF at u3
  unfold prtF at n3
  rw [hcx] at u3 n3 k4 k5 p3
  generalize us.getD 0 lnD = u at *
  generalize ns.getD 0 lnD = n at *
  generalize qs.getD 0 quD = q at *
  generalize ps.getD 0 ptD = pt at *
  rw [show (0 + 1 : Nat) = 1 from rfl] at k4 p4
  rw [k4] at ed
  generalize ds.getD 0 dsD = d0 at *
  generalize ds.drop 2 = R at *
  obtain ⟨l, f, u4⟩ := u
  obtain ⟨p, g, n4⟩ := n
  obtain ⟨pp, pt4⟩ := pt
  dsimp only at u3 n3 k5 p3 p4 eu en eq ep ed
  subst u3 n3 p3 eu en eq ep ed
  refine ⟨⟨C, b, bm, bs, bl, bp, ba, bd, bu, mu, l, f, bn, mn, p, g, bk, be, d0, R, q, P, pp⟩, rfl, hC, fun L => ?_⟩
  refine FEnt.ent ?_
  unfold Tryz.mchP
  dsimp only
  rw [mch1_of p4, hx]
  refine FEnt.open1 (H := Tryz.quH) 4 rfl ?_
  refine FEnt.open1 (H := Tryz.parH bm) 7 rfl ?_
  (repeat (first | exact FEnt.rfl | (refine FEnt.at 0 rfl ?_; (try simp only [List.eraseIdx_cons_zero, List.eraseIdx_cons_succ, List.eraseIdx_zero, List.tail_cons])) | (refine FEnt.at 1 rfl ?_; (try simp only [List.eraseIdx_cons_zero, List.eraseIdx_cons_succ, List.eraseIdx_zero, List.tail_cons])) | (refine FEnt.at 2 rfl ?_; (try simp only [List.eraseIdx_cons_zero, List.eraseIdx_cons_succ, List.eraseIdx_zero, List.tail_cons])) | (refine FEnt.at 4 rfl ?_; (try simp only [List.eraseIdx_cons_zero, List.eraseIdx_cons_succ, List.eraseIdx_zero, List.tail_cons])) | refine FEnt.nil ?_)); done
end Go.Proofs
