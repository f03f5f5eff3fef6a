/- The server at the first ticks, with nothing to do: contracts. -/
import Derived.Test.YtdjpcfaidgofoaaGreatTopH
import Derived.Test.YtdjpcfaidgofoaaGreatTopO
set_option linter.all false
namespace Go.Eng
open Go
/-- a call that reads, and may lay more, over a part wherever it stands -/
theorem CN.isAt {P : Program} {L : List HP} {f : FuncId} {args : List Value} {B : HP} {v : Value} {K : Value → List HP → Prop} (i : Nat) (hi : L[i]? = some B)
    (c : ∀ M, Con P f args (B :: M) (Is v (B :: M))) (k : K v L) : CN P f args L K := by
  refine ⟨fun v' N => v' = v ∧ N = [], fun M => ?_, fun v' N h => ?_⟩
  · have hp : (M ++ L).Perm (B :: (M ++ L.eraseIdx i)) := ((perm_at L i hi).append_left M).trans List.perm_middle
    exact (Con.entl (Ent.perm hp) (c _)).mono (fun v' L' h => ⟨[], ⟨h.v, rfl⟩, h.l.trans (Ent.perm hp.symm)⟩) (fun _ _ h => h)
  · obtain ⟨rfl, rfl⟩ := h
    exact k
end Go.Eng
namespace Go.Proofs
open Go.Eng
set_option linter.unusedVariables false
set_option maxRecDepth 100000
set_option maxHeartbeats 4000000
/-- desks of one client -/
abbrev ds0 (d0 : Dsk) (q : Nat) (R : List Dsk) : List Dsk := d0 :: (cl0, some ⟨q, 0, none⟩, 0, 0, false) :: R
theorem stF_0 : stF 20 [(1, 4, 12)] 0 = (0, -1, 0) := by decide
theorem stF_1 : stF 20 [(1, 4, 12)] 1 = (0, -1, 0) := by decide
theorem stF_2 : stF 20 [(1, 4, 12)] 2 = (0, -1, 0) := by decide
theorem stF_3 : stF 20 [(1, 4, 12)] 3 = (0, -1, 0) := by decide
theorem stF_4 : stF 20 [(1, 4, 12)] 4 = (1, 0, 0) := by decide
theorem stF_5 : stF 20 [(1, 4, 12)] 5 = (1, 0, 1) := by decide
theorem Tryz.srvStart (bs bp bm bd ba : Nat) (d0 : Dsk) (R : List Dsk) (y : Qu) (L : List HP) :
    Con Tryz.prog 178 [pV bs, n64 4, n64 1] (ptc bs 165 (Tryz.srvC (pV bp) (pV bm) (pV bd) (pV ba) (ds0 d0 y.1 R)) :: Tryz.quH y :: L) (Is (.tuple #[]) (ptc bs 165 (Tryz.srvC (pV bp) (pV bm) (pV bd) (pV ba) (ds0 d0 y.1 R)) :: Tryz.quH y :: L)) := by
  have hq := fun L => Tryz.quHead y L
  refine con_of Tryz.tysOk Tryz.func178 rfl rfl ?_
  conv => whnf
  repeat' (first
    | (first | ((with_reducible refine Br.tt ?_); conv => whnf) | ((with_reducible refine Br.nf ?_); conv => whnf))
    | ((with_reducible refine Nd.mk ?_ ?_); (focus (first | omega | rfl | assumption | (simp; done))); conv => whnf)
    | ((with_reducible refine Nc.go' (fun _ => ?_)); conv => whnf)
    | ((refine Ix.arr (by decide) ?_); conv => whnf)
    | (refine Ld.at 0 rfl rfl ?_; conv => whnf)
    | (refine St.at 0 rfl (by first | exact Nat.le_of_ble_eq_true rfl | (simp; done)) rfl ?_; conv => whnf)
    | ((refine Cl.isAt 1 rfl (hq _) ?_); conv => whnf))
  all_goals first | (exfalso; omega) | (refine Is.ent ?_ ?_; (focus (refine FEnt.ent ?_; (repeat (first | exact FEnt.rfl | (refine FEnt.at 1 rfl ?_; (try simp only [List.eraseIdx_cons_zero, List.eraseIdx_cons_succ, List.eraseIdx_zero, List.tail_cons])) | refine FEnt.drop ?_)); done)); (exact Is.rfl))
theorem Tryz.srvPost (bs bp bm bd ba : Nat) (d0 : Dsk) (R : List Dsk) (y : Qu) (L : List HP) :
    Con Tryz.prog 149 [pV bs, n64 0, n64 1] (ptc bs 165 (Tryz.srvC (pV bp) (pV bm) (pV bd) (pV ba) (ds0 d0 y.1 R)) :: Tryz.quH y :: Tryz.memH bm mem0 :: L) (Is (.agg #[n64 0, n64 0, .slice none 0 0]) (ptc bs 165 (Tryz.srvC (pV bp) (pV bm) (pV bd) (pV ba) (ds0 d0 y.1 R)) :: Tryz.quH y :: Tryz.memH bm mem0 :: L)) := by
  have hq := fun L => Tryz.quPost y L
  have hw := fun L => Tryz.postWrite bm L
  generalize mem0 = Z at *
  refine con_of Tryz.tysOk Tryz.func149 rfl rfl ?_
  conv => whnf
  repeat' (first
    | (first | ((with_reducible refine Br.ff ?_); conv => whnf) | ((with_reducible refine Br.dt ?_ ?_); (focus (first | assumption | omega)); conv => whnf) | ((with_reducible refine Br.ndf ?_ ?_); (focus (first | assumption | omega)); conv => whnf))
    | ((with_reducible refine Nd.mk ?_ ?_); (focus (first | omega | rfl | assumption | (simp; done))); conv => whnf)
    | ((with_reducible refine Nc.go' (fun _ => ?_)); conv => whnf)
    | ((refine Ix.arr (by decide) ?_); conv => whnf)
    | (refine Ld.at 1 rfl rfl ?_; conv => whnf)
    | (first | (refine LdN.at 0 rfl (by first | exact Nat.le_of_ble_eq_true rfl | (simp; done)) ?_; conv => whnf) | (refine LdN.at 1 rfl (by first | exact Nat.le_of_ble_eq_true rfl | (simp; done)) ?_; conv => whnf))
    | (refine St.at 0 rfl (by first | exact Nat.le_of_ble_eq_true rfl | (simp; done)) rfl ?_; conv => whnf)
    | ((with_reducible refine Dr.by (id := 3) Tryz.tysOk rfl [(0, 0), (1, 0), (2, 0), (4, 0), (5, 0), (6, 0), (8, 0), (9, 0), (10, 0), (12, 0), (3, 1), (7, 1), (11, 1), (13, 3), (14, 0), (15, 0), (16, 0), (17, 0), (18, 0)] ?_ ?_); (focus kernel_rfl); conv => whnf)
    | (first | ((refine Cl.isAt 2 rfl (hq _) ?_); conv => whnf) | ((refine Cl.isAt 3 rfl (hw _) ?_); conv => whnf)))
  all_goals first | (exfalso; omega) | (refine Is.ent ?_ ?_; (focus (refine FEnt.ent ?_; (repeat (first | exact FEnt.rfl | (refine FEnt.at 1 rfl ?_; (try simp only [List.eraseIdx_cons_zero, List.eraseIdx_cons_succ, List.eraseIdx_zero, List.tail_cons])) | refine FEnt.drop ?_)); done)); (exact Is.rfl))
theorem Tryz.srvCollect (bs bp bm bd ba : Nat) (d0 : Dsk) (R : List Dsk) (y : Qu) (L : List HP) :
    Con Tryz.prog 150 [pV bs, n64 1] (ptc bs 165 (Tryz.srvC (pV bp) (pV bm) (pV bd) (pV ba) (ds0 d0 y.1 R)) :: Tryz.quH y :: Tryz.memH bm mem0 :: L) (Is (.tuple #[]) (ptc bs 165 (Tryz.srvC (pV bp) (pV bm) (pV bd) (pV ba) (ds0 d0 y.1 R)) :: Tryz.quH y :: Tryz.memH bm mem0 :: L)) := by
  have hw := fun L => Tryz.postCollect bm L
  generalize mem0 = Z at *
  refine con_of Tryz.tysOk Tryz.func150 rfl rfl ?_
  conv => whnf
  repeat' (first
    | ((with_reducible refine Nd.mk ?_ ?_); (focus (first | omega | rfl | assumption | (simp; done))); conv => whnf)
    | ((refine Ix.arr (by decide) ?_); conv => whnf)
    | (refine Ld.at 0 rfl rfl ?_; conv => whnf)
    | (refine LdN.at 0 rfl (by first | exact Nat.le_of_ble_eq_true rfl | (simp; done)) ?_; conv => whnf)
    | ((with_reducible refine Dr.by (id := 1) Tryz.tysOk rfl [(0, 0), (1, 0), (2, 0), (4, 0), (5, 0), (6, 0), (8, 0), (9, 0), (10, 0), (12, 0), (13, 0), (14, 0), (3, 1), (7, 1), (11, 1), (15, 1), (16, 4), (17, 0), (18, 0), (19, 0), (20, 0), (21, 0)] ?_ ?_); (focus kernel_rfl); conv => whnf)
    | ((refine CN.isAt 2 rfl (fun M => hw M) ?_); conv => whnf))
  all_goals try (exfalso; omega)
  refine Lp.unr 1 (LpU.step Tryz.tysOk ?_)
  conv => whnf
  repeat' ((with_reducible refine Br.df ?_ ?_); (focus (first | assumption | omega)); conv => whnf)
  all_goals first | (exfalso; omega) | (refine Is.ent ?_ ?_; (focus (exact Ent.rfl)); (exact Is.rfl))
theorem Tryz.srvTick1 (bo : Nat) (L : List HP) :
    Con Tryz.prog 146 [.agg #[n64 0, n64 0, .slice none 0 0], pV bo] L (Is (.tuple #[]) L) := by
  refine con_of Tryz.tysOk Tryz.func146 rfl rfl ?_
  conv => whnf
  repeat' (first
    | (first | ((with_reducible refine Br.ff ?_); conv => whnf) | ((with_reducible refine Br.df ?_ ?_); (focus (first | assumption | omega)); conv => whnf) | ((with_reducible refine Br.ndf ?_ ?_); (focus (first | assumption | omega)); conv => whnf))
    | ((with_reducible refine Nc.go' (fun _ => ?_)); conv => whnf)
    | (refine Ld.at 0 rfl rfl ?_; conv => whnf))
  all_goals first | (exfalso; omega) | (refine Is.ent ?_ ?_; (focus (refine FEnt.ent ?_; (repeat (first | exact FEnt.rfl | refine FEnt.drop ?_)); done)); (exact Is.rfl))
/-- what the server holds, and what it asks -/
abbrev Tryz.srvP (bs bp bm bd ba : Nat) (d0 : Dsk) (R : List Dsk) (y : Qu) : HP := ptc bs 165 (Tryz.srvC (pV bp) (pV bm) (pV bd) (pV ba) (ds0 d0 y.1 R))
theorem Tryz.srvBusNo (C : Cfg) (bs bp bm bd ba bo : Nat) (d0 : Dsk) (R : List Dsk) (y : Qu) (t : Int) (L : List HP) (h : isC0 C) (ht : t = 0 ∨ t = 1 ∨ t = 2 ∨ t = 3 ∨ t = 5) :
    Con Tryz.prog 147 [pV bs, n64 t, .func (.func 146) #[] #[pV bo]] (Tryz.srvP bs bp bm bd ba d0 R y :: Tryz.plnH C bp :: L) (Is (.tuple #[]) (Tryz.srvP bs bp bm bd ba d0 R y :: Tryz.plnH C bp :: L)) := by
  have hb := fun L => Tryz.plnBus C bp t L h (by omega)
  rcases ht with rfl | rfl | rfl | rfl | rfl
  · rw [stF_0] at hb
    dsimp only at hb
    refine con_of Tryz.tysOk Tryz.func147 rfl rfl ?_
    conv => whnf
    repeat' (first
      | (first | ((with_reducible refine Br.tt ?_); conv => whnf) | ((with_reducible refine Br.dt ?_ ?_); (focus (first | assumption | omega)); conv => whnf))
      | ((with_reducible refine Nd.mk ?_ ?_); (focus (first | omega | rfl | assumption | (simp; done))); conv => whnf)
      | ((with_reducible refine Nc.go' (fun _ => ?_)); conv => whnf)
      | (refine Ld.at 0 rfl rfl ?_; conv => whnf)
      | (refine St.at 0 rfl (by first | exact Nat.le_of_ble_eq_true rfl | (simp; done)) rfl ?_; conv => whnf)
      | ((refine Cl.isAt 1 rfl (hb _) ?_); conv => whnf))
    all_goals first | (exfalso; omega) | (refine Is.ent ?_ ?_; (focus (refine FEnt.ent ?_; (repeat (first | exact FEnt.rfl | (refine FEnt.at 1 rfl ?_; (try simp only [List.eraseIdx_cons_zero, List.eraseIdx_cons_succ, List.eraseIdx_zero, List.tail_cons])) | refine FEnt.drop ?_)); done)); (exact Is.rfl))
  · rw [stF_1] at hb
    dsimp only at hb
    refine con_of Tryz.tysOk Tryz.func147 rfl rfl ?_
    conv => whnf
    repeat' (first
      | (first | ((with_reducible refine Br.tt ?_); conv => whnf) | ((with_reducible refine Br.dt ?_ ?_); (focus (first | assumption | omega)); conv => whnf))
      | ((with_reducible refine Nd.mk ?_ ?_); (focus (first | omega | rfl | assumption | (simp; done))); conv => whnf)
      | ((with_reducible refine Nc.go' (fun _ => ?_)); conv => whnf)
      | (refine Ld.at 0 rfl rfl ?_; conv => whnf)
      | (refine St.at 0 rfl (by first | exact Nat.le_of_ble_eq_true rfl | (simp; done)) rfl ?_; conv => whnf)
      | ((refine Cl.isAt 1 rfl (hb _) ?_); conv => whnf))
    all_goals first | (exfalso; omega) | (refine Is.ent ?_ ?_; (focus (refine FEnt.ent ?_; (repeat (first | exact FEnt.rfl | (refine FEnt.at 1 rfl ?_; (try simp only [List.eraseIdx_cons_zero, List.eraseIdx_cons_succ, List.eraseIdx_zero, List.tail_cons])) | refine FEnt.drop ?_)); done)); (exact Is.rfl))
  · rw [stF_2] at hb
    dsimp only at hb
    refine con_of Tryz.tysOk Tryz.func147 rfl rfl ?_
    conv => whnf
    repeat' (first
      | (first | ((with_reducible refine Br.tt ?_); conv => whnf) | ((with_reducible refine Br.dt ?_ ?_); (focus (first | assumption | omega)); conv => whnf))
      | ((with_reducible refine Nd.mk ?_ ?_); (focus (first | omega | rfl | assumption | (simp; done))); conv => whnf)
      | ((with_reducible refine Nc.go' (fun _ => ?_)); conv => whnf)
      | (refine Ld.at 0 rfl rfl ?_; conv => whnf)
      | (refine St.at 0 rfl (by first | exact Nat.le_of_ble_eq_true rfl | (simp; done)) rfl ?_; conv => whnf)
      | ((refine Cl.isAt 1 rfl (hb _) ?_); conv => whnf))
    all_goals first | (exfalso; omega) | (refine Is.ent ?_ ?_; (focus (refine FEnt.ent ?_; (repeat (first | exact FEnt.rfl | (refine FEnt.at 1 rfl ?_; (try simp only [List.eraseIdx_cons_zero, List.eraseIdx_cons_succ, List.eraseIdx_zero, List.tail_cons])) | refine FEnt.drop ?_)); done)); (exact Is.rfl))
  · rw [stF_3] at hb
    dsimp only at hb
    refine con_of Tryz.tysOk Tryz.func147 rfl rfl ?_
    conv => whnf
    repeat' (first
      | (first | ((with_reducible refine Br.tt ?_); conv => whnf) | ((with_reducible refine Br.dt ?_ ?_); (focus (first | assumption | omega)); conv => whnf))
      | ((with_reducible refine Nd.mk ?_ ?_); (focus (first | omega | rfl | assumption | (simp; done))); conv => whnf)
      | ((with_reducible refine Nc.go' (fun _ => ?_)); conv => whnf)
      | (refine Ld.at 0 rfl rfl ?_; conv => whnf)
      | (refine St.at 0 rfl (by first | exact Nat.le_of_ble_eq_true rfl | (simp; done)) rfl ?_; conv => whnf)
      | ((refine Cl.isAt 1 rfl (hb _) ?_); conv => whnf))
    all_goals first | (exfalso; omega) | (refine Is.ent ?_ ?_; (focus (refine FEnt.ent ?_; (repeat (first | exact FEnt.rfl | (refine FEnt.at 1 rfl ?_; (try simp only [List.eraseIdx_cons_zero, List.eraseIdx_cons_succ, List.eraseIdx_zero, List.tail_cons])) | refine FEnt.drop ?_)); done)); (exact Is.rfl))
  · rw [stF_5] at hb
    dsimp only at hb
    refine con_of Tryz.tysOk Tryz.func147 rfl rfl ?_
    conv => whnf
    repeat' (first
      | (first | ((with_reducible refine Br.ff ?_); conv => whnf) | ((with_reducible refine Br.df ?_ ?_); (focus (first | assumption | omega)); conv => whnf))
      | ((with_reducible refine Nd.mk ?_ ?_); (focus (first | omega | rfl | assumption | (simp; done))); conv => whnf)
      | ((with_reducible refine Nc.go' (fun _ => ?_)); conv => whnf)
      | (refine Ld.at 0 rfl rfl ?_; conv => whnf)
      | (refine St.at 0 rfl (by first | exact Nat.le_of_ble_eq_true rfl | (simp; done)) rfl ?_; conv => whnf)
      | ((refine Cl.isAt 1 rfl (hb _) ?_); conv => whnf))
    all_goals first | (exfalso; omega) | (refine Is.ent ?_ ?_; (focus (refine FEnt.ent ?_; (repeat (first | exact FEnt.rfl | (refine FEnt.at 1 rfl ?_; (try simp only [List.eraseIdx_cons_zero, List.eraseIdx_cons_succ, List.eraseIdx_zero, List.tail_cons])) | refine FEnt.drop ?_)); done)); (exact Is.rfl))
theorem Tryz.srvBus4 (C : Cfg) (bs bp bm bd ba bo : Nat) (d0 : Dsk) (R : List Dsk) (y : Qu) (L : List HP) (h : isC0 C) :
    Con Tryz.prog 147 [pV bs, n64 4, .func (.func 146) #[] #[pV bo]] (Tryz.srvP bs bp bm bd ba d0 R y :: Tryz.quH y :: Tryz.plnH C bp :: L) (Is (.tuple #[]) (Tryz.srvP bs bp bm bd ba d0 R y :: Tryz.quH y :: Tryz.plnH C bp :: L)) := by
  have hb := fun L => Tryz.plnBus C bp 4 L h (by omega)
  have hs := fun L => Tryz.srvStart bs bp bm bd ba d0 R y L
  rw [stF_4] at hb
  dsimp only at hb
  refine con_of Tryz.tysOk Tryz.func147 rfl rfl ?_
  conv => whnf
  repeat' (first
    | (first | ((with_reducible refine Br.ff ?_); conv => whnf) | ((with_reducible refine Br.dt ?_ ?_); (focus (first | assumption | omega)); conv => whnf) | ((with_reducible refine Br.df ?_ ?_); (focus (first | assumption | omega)); conv => whnf))
    | ((with_reducible refine Nd.mk ?_ ?_); (focus (first | omega | rfl | assumption | (simp; done))); conv => whnf)
    | ((with_reducible refine Nc.go' (fun _ => ?_)); conv => whnf)
    | (first | (refine Ld.at 0 rfl rfl ?_; conv => whnf) | (refine Ld.at 2 rfl rfl ?_; conv => whnf))
    | (refine St.at 0 rfl (by first | exact Nat.le_of_ble_eq_true rfl | (simp; done)) rfl ?_; conv => whnf)
    | (first | ((refine Cl.isAt 2 rfl (hb _) ?_); conv => whnf) | ((refine Cl.isAt2 1 1 rfl rfl (hs _) ?_); conv => whnf)))
  all_goals first | (exfalso; omega) | (refine Is.ent ?_ ?_; (focus (refine FEnt.ent ?_; (repeat (first | exact FEnt.rfl | (refine FEnt.at 0 rfl ?_; (try simp only [List.eraseIdx_cons_zero, List.eraseIdx_cons_succ, List.eraseIdx_zero, List.tail_cons])) | (refine FEnt.at 1 rfl ?_; (try simp only [List.eraseIdx_cons_zero, List.eraseIdx_cons_succ, List.eraseIdx_zero, List.tail_cons])) | refine FEnt.drop ?_)); done)); (exact Is.rfl))
theorem Tryz.srvDuty (C : Cfg) (bp : Nat) (t a b : Int) (L : List HP) (h : isC0 C) (ht : 0 ≤ t ∧ t < 20) (ha : a = if t < 2 then 1 + t % 2 else 0) (hb : b = if t < 2 then t / 2 + 1 else 0) :
    Con Tryz.prog 148 [pV bp, n64 t] (Tryz.plnH C bp :: L) (Is (.agg #[n64 a, n64 b]) (Tryz.plnH C bp :: L)) := by
  obtain ⟨F, wa, wc, W, sa, sc, S, ca, cc, X⟩ := C
  obtain ⟨rfl, rfl, rfl, rfl⟩ := h
  refine Tryz.plnOpen fun ⟨⟨ca, cc⟩, bs, ⟨sa, sc⟩, bg⟩ ⟨g1, g2, g3, g4⟩ => ?_
  dsimp only at g1 g2 g3 g4 ⊢
  have hd := Tryz.plnDutyB bp ca cc (wndF [(0, 0, 4), (1, 4, 20)]) (pV bs) (pV bg) t (own clE 46 ca cc [cl0] :: ptc bs 264 [n64 20, .slice sa ([(1, 4, 12)] : List Slt).length sc] :: own slE 44 sa sc [(1, 4, 12)] :: L) ht rfl
  have e0 : (wndF [(0, 0, 4), (1, 4, 20)] 0).1 = 0 := rfl
  rw [e0, Int.sub_zero, Int.tdiv_eq_ediv_of_nonneg ht.1, Int.tmod_eq_emod_of_nonneg ht.1, ← ha, ← hb] at hd
  exact hd.mono (fun v L' hh => ⟨hh.v, hh.l.trans (by (refine FEnt.ent ?_; (repeat (first | exact FEnt.rfl | (apply Tryz.plnShut) | rfl | assumption)); done))⟩) (fun _ _ h => h)
/-- a tick of the server's at which nothing is told -/
theorem Tryz.srvTickNo (C : Cfg) (bs bp bm bd ba : Nat) (d0 : Dsk) (R : List Dsk) (y : Qu) (t : Int) (L : List HP) (h : isC0 C) (ht : t = 2 ∨ t = 3 ∨ t = 5) :
    Con Tryz.prog 84 [pV bs, n64 t] (Tryz.srvP bs bp bm bd ba d0 R y :: Tryz.quH y :: Tryz.plnH C bp :: Tryz.memH bm mem0 :: L) (Is (.slice none 0 0) (Tryz.srvP bs bp bm bd ba d0 R y :: Tryz.quH y :: Tryz.plnH C bp :: Tryz.memH bm mem0 :: L)) := by
  have hb := fun bo L => Tryz.srvBusNo C bs bp bm bd ba bo d0 R y t L h (by omega)
  have hd := fun L => Tryz.srvDuty C bp t 0 0 L h (by omega) (if_neg (by omega)).symm (if_neg (by omega)).symm
  generalize mem0 = Z at *
  refine con_of Tryz.tysOk Tryz.func84 rfl rfl ?_
  conv => whnf
  repeat' (first
    | (first | ((with_reducible refine Br.sn ?_); conv => whnf) | ((with_reducible refine Br.df ?_ ?_); (focus (first | assumption | omega)); conv => whnf))
    | ((with_reducible refine Nd.mk ?_ ?_); (focus (first | omega | rfl | assumption | (simp; done))); conv => whnf)
    | ((with_reducible refine Nc.go' (fun _ => ?_)); conv => whnf)
    | (first | (refine Ld.at 0 rfl rfl ?_; conv => whnf) | (refine Ld.at 3 rfl rfl ?_; conv => whnf))
    | (refine St.at 0 rfl (by first | exact Nat.le_of_ble_eq_true rfl | (simp; done)) rfl ?_; conv => whnf)
    | (first | ((refine Cl.isAt2 1 2 rfl rfl (hb _ _) ?_); conv => whnf) | ((refine Cl.isAt 1 rfl (hd _) ?_); conv => whnf)))
  all_goals first | (exfalso; omega) | (refine Is.ent ?_ ?_; (focus (refine FEnt.ent ?_; (repeat (first | exact FEnt.rfl | (refine FEnt.at 1 rfl ?_; (try simp only [List.eraseIdx_cons_zero, List.eraseIdx_cons_succ, List.eraseIdx_zero, List.tail_cons])) | (refine FEnt.at 2 rfl ?_; (try simp only [List.eraseIdx_cons_zero, List.eraseIdx_cons_succ, List.eraseIdx_zero, List.tail_cons])) | (refine FEnt.at 3 rfl ?_; (try simp only [List.eraseIdx_cons_zero, List.eraseIdx_cons_succ, List.eraseIdx_zero, List.tail_cons])) | refine FEnt.drop ?_)); done)); (exact Is.rfl))
theorem Tryz.srvTick4 (C : Cfg) (bs bp bm bd ba : Nat) (d0 : Dsk) (R : List Dsk) (y : Qu) (L : List HP) (h : isC0 C) :
    Con Tryz.prog 84 [pV bs, n64 4] (Tryz.srvP bs bp bm bd ba d0 R y :: Tryz.quH y :: Tryz.plnH C bp :: Tryz.memH bm mem0 :: L) (Is (.slice none 0 0) (Tryz.srvP bs bp bm bd ba d0 R y :: Tryz.quH y :: Tryz.plnH C bp :: Tryz.memH bm mem0 :: L)) := by
  have hb := fun bo L => Tryz.srvBus4 C bs bp bm bd ba bo d0 R y L h
  have hd := fun L => Tryz.srvDuty C bp 4 0 0 L h (by omega) rfl rfl
  generalize mem0 = Z at *
  refine con_of Tryz.tysOk Tryz.func84 rfl rfl ?_
  conv => whnf
  repeat' (first
    | (first | ((with_reducible refine Br.sn ?_); conv => whnf) | ((with_reducible refine Br.df ?_ ?_); (focus (first | assumption | omega)); conv => whnf))
    | ((with_reducible refine Nd.mk ?_ ?_); (focus (first | omega | rfl | assumption | (simp; done))); conv => whnf)
    | ((with_reducible refine Nc.go' (fun _ => ?_)); conv => whnf)
    | (first | (refine Ld.at 0 rfl rfl ?_; conv => whnf) | (refine Ld.at 4 rfl rfl ?_; conv => whnf))
    | (refine St.at 0 rfl (by first | exact Nat.le_of_ble_eq_true rfl | (simp; done)) rfl ?_; conv => whnf)
    | (first | (apply (Cl.pre [Tryz.srvP _ _ _ _ _ _ _ _, Tryz.quH _, Tryz.plnH _ _]); (focus (repeat (first | exact FEnt.rfl | (refine FEnt.at 1 rfl ?_; (try simp only [List.eraseIdx_cons_zero, List.eraseIdx_cons_succ, List.eraseIdx_zero, List.tail_cons])))); done); refine Cl.is (hb _ _) ?_; conv => whnf) | ((refine Cl.isAt 2 rfl (hd _) ?_); conv => whnf)))
  all_goals first | (exfalso; omega) | (refine Is.ent ?_ ?_; (focus (refine FEnt.ent ?_; (repeat (first | exact FEnt.rfl | (refine FEnt.at 1 rfl ?_; (try simp only [List.eraseIdx_cons_zero, List.eraseIdx_cons_succ, List.eraseIdx_zero, List.tail_cons])) | (refine FEnt.at 2 rfl ?_; (try simp only [List.eraseIdx_cons_zero, List.eraseIdx_cons_succ, List.eraseIdx_zero, List.tail_cons])) | refine FEnt.drop ?_)); done)); (exact Is.rfl))
theorem Tryz.srvTick0 (C : Cfg) (bs bp bm bd ba : Nat) (d0 : Dsk) (R : List Dsk) (y : Qu) (L : List HP) (h : isC0 C) :
    Con Tryz.prog 84 [pV bs, n64 0] (Tryz.srvP bs bp bm bd ba d0 R y :: Tryz.quH y :: Tryz.plnH C bp :: Tryz.memH bm mem0 :: L) (Is (.slice none 0 0) (Tryz.srvP bs bp bm bd ba d0 R y :: Tryz.quH y :: Tryz.plnH C bp :: Tryz.memH bm mem0 :: L)) := by
  have hb := fun bo L => Tryz.srvBusNo C bs bp bm bd ba bo d0 R y 0 L h (by omega)
  have hd := fun L => Tryz.srvDuty C bp 0 1 1 L h (by omega) rfl rfl
  have hp := fun L => Tryz.srvPost bs bp bm bd ba d0 R y L
  generalize mem0 = Z at *
  refine con_of Tryz.tysOk Tryz.func84 rfl rfl ?_
  conv => whnf
  repeat' (first
    | (first | ((with_reducible refine Br.sn ?_); conv => whnf) | ((with_reducible refine Br.dt ?_ ?_); (focus (first | assumption | omega)); conv => whnf))
    | ((with_reducible refine Nd.mk ?_ ?_); (focus (first | omega | rfl | assumption | (simp; done))); conv => whnf)
    | ((with_reducible refine Nc.go' (fun _ => ?_)); conv => whnf)
    | (first | (refine Ld.at 0 rfl rfl ?_; conv => whnf) | (refine Ld.at 5 rfl rfl ?_; conv => whnf))
    | (refine St.at 0 rfl (by first | exact Nat.le_of_ble_eq_true rfl | (simp; done)) rfl ?_; conv => whnf)
    | (first | ((refine Cl.isAt2 1 2 rfl rfl (hb _ _) ?_); conv => whnf) | ((refine Cl.isAt 1 rfl (hd _) ?_); conv => whnf) | (apply (Cl.pre [Tryz.srvP _ _ _ _ _ _ _ _, Tryz.quH _, Tryz.memH _ _]); (focus (repeat (first | exact FEnt.rfl | (refine FEnt.at 1 rfl ?_; (try simp only [List.eraseIdx_cons_zero, List.eraseIdx_cons_succ, List.eraseIdx_zero, List.tail_cons])) | (refine FEnt.at 3 rfl ?_; (try simp only [List.eraseIdx_cons_zero, List.eraseIdx_cons_succ, List.eraseIdx_zero, List.tail_cons])))); done); refine Cl.is (hp _) ?_; conv => whnf) | ((with_reducible refine Cl.is (Tryz.srvTick1 _ _) ?_); conv => whnf)))
  all_goals first | (exfalso; omega) | (refine Is.ent ?_ ?_; (focus (refine FEnt.ent ?_; (repeat (first | exact FEnt.rfl | (refine FEnt.at 0 rfl ?_; (try simp only [List.eraseIdx_cons_zero, List.eraseIdx_cons_succ, List.eraseIdx_zero, List.tail_cons])) | (refine FEnt.at 2 rfl ?_; (try simp only [List.eraseIdx_cons_zero, List.eraseIdx_cons_succ, List.eraseIdx_zero, List.tail_cons])) | refine FEnt.drop ?_)); done)); (exact Is.rfl))
theorem Tryz.srvTick1n (C : Cfg) (bs bp bm bd ba : Nat) (d0 : Dsk) (R : List Dsk) (y : Qu) (L : List HP) (h : isC0 C) :
    Con Tryz.prog 84 [pV bs, n64 1] (Tryz.srvP bs bp bm bd ba d0 R y :: Tryz.quH y :: Tryz.plnH C bp :: Tryz.memH bm mem0 :: L) (Is (.slice none 0 0) (Tryz.srvP bs bp bm bd ba d0 R y :: Tryz.quH y :: Tryz.plnH C bp :: Tryz.memH bm mem0 :: L)) := by
  have hb := fun bo L => Tryz.srvBusNo C bs bp bm bd ba bo d0 R y 1 L h (by omega)
  have hd := fun L => Tryz.srvDuty C bp 1 2 1 L h (by omega) rfl rfl
  have hp := fun L => Tryz.srvCollect bs bp bm bd ba d0 R y L
  generalize mem0 = Z at *
  refine con_of Tryz.tysOk Tryz.func84 rfl rfl ?_
  conv => whnf
  repeat' (first
    | (first | ((with_reducible refine Br.sn ?_); conv => whnf) | ((with_reducible refine Br.dt ?_ ?_); (focus (first | assumption | omega)); conv => whnf) | ((with_reducible refine Br.df ?_ ?_); (focus (first | assumption | omega)); conv => whnf))
    | ((with_reducible refine Nd.mk ?_ ?_); (focus (first | omega | rfl | assumption | (simp; done))); conv => whnf)
    | ((with_reducible refine Nc.go' (fun _ => ?_)); conv => whnf)
    | (first | (refine Ld.at 0 rfl rfl ?_; conv => whnf) | (refine Ld.at 5 rfl rfl ?_; conv => whnf))
    | (refine St.at 0 rfl (by first | exact Nat.le_of_ble_eq_true rfl | (simp; done)) rfl ?_; conv => whnf)
    | (first | ((refine Cl.isAt2 1 2 rfl rfl (hb _ _) ?_); conv => whnf) | ((refine Cl.isAt 1 rfl (hd _) ?_); conv => whnf) | (apply (Cl.pre [Tryz.srvP _ _ _ _ _ _ _ _, Tryz.quH _, Tryz.memH _ _]); (focus (repeat (first | exact FEnt.rfl | (refine FEnt.at 1 rfl ?_; (try simp only [List.eraseIdx_cons_zero, List.eraseIdx_cons_succ, List.eraseIdx_zero, List.tail_cons])) | (refine FEnt.at 3 rfl ?_; (try simp only [List.eraseIdx_cons_zero, List.eraseIdx_cons_succ, List.eraseIdx_zero, List.tail_cons])))); done); refine Cl.is (hp _) ?_; conv => whnf)))
  all_goals first | (exfalso; omega) | (refine Is.ent ?_ ?_; (focus (refine FEnt.ent ?_; (repeat (first | exact FEnt.rfl | (refine FEnt.at 0 rfl ?_; (try simp only [List.eraseIdx_cons_zero, List.eraseIdx_cons_succ, List.eraseIdx_zero, List.tail_cons])) | (refine FEnt.at 2 rfl ?_; (try simp only [List.eraseIdx_cons_zero, List.eraseIdx_cons_succ, List.eraseIdx_zero, List.tail_cons])) | refine FEnt.drop ?_)); done)); (exact Is.rfl))
end Go.Proofs
