/- The machine's first ticks: contracts. -/
import Derived.Test.YtdjpcfaidgofoaaGreatTopW
set_option linter.all false
namespace Go.Proofs
open Go.Eng
set_option linter.unusedVariables false
set_option maxRecDepth 100000
set_option maxHeartbeats 8000000
/-! the client's steps -/
def mq0 : Mch := ⟨zeros 64, 0, fun _ => 0, 0⟩
theorem mq0_step : (stepF mq0).2 = (4, 0, 0, 0) ∧ (stepF mq0).1.V = zeros 64 ∧ (stepF mq0).1.m = 2 := ⟨by decide, by decide, by decide⟩
theorem mq0_ok : Mok mq0 := ⟨fun i => ⟨by show (_ : Int) ≤ 0; omega, by show (0 : Int) ≤ _; omega⟩, ⟨by show (_ : Int) ≤ 0; omega, by show (0 : Int) ≤ _; omega⟩, by show (List.replicate 64 (0 : UInt8)).length ≤ 400; rw [List.length_replicate]; omega⟩
def mq1 : Mch := (stepF mq0).1
theorem mq0_pst (f : Fct) : pstF mq0 f = mq1 ∧ pstL mq0 f = [(f.1, 4, 0, 0, 0, ⟨#[]⟩)] ∧ pstB mq0 = false := by
  have h := mq0_step.1
  refine ⟨?_, ?_, ?_⟩
  · unfold pstF; rw [h]; exact if_neg (by decide)
  · unfold pstL; rw [h]; rfl
  · unfold pstB; rw [h]; rfl
theorem mq1_ok : Mok mq1 := by
  have h := pst_ok (f := (0, 0, 0, 0, 0)) mq0_ok
  rwa [(mq0_pst _).1] at h
theorem mq1_V : mq1.V = zeros 64 := mq0_step.2.1
theorem mq1_step : stepF mq1 = (mq1, (0, 0, 0, 0)) := by
  have h : mq1.m ≠ 0 := by rw [show mq1.m = 2 from mq0_step.2.2]; decide
  unfold stepF
  exact if_pos h
theorem mq1_pst (f : Fct) : pstF mq1 f = mq1 ∧ pstL mq1 f = [] ∧ pstB mq1 = false := by
  refine ⟨?_, ?_, ?_⟩
  · unfold pstF; rw [mq1_step]; rfl
  · unfold pstL; rw [mq1_step]; rfl
  · unfold pstB; rw [mq1_step]; rfl
theorem mem0_cut : mem0 = zeros 128 ++ zeros 64 ++ zeros 16192 := by
  unfold mem0 zeros
  rw [List.replicate_append_replicate, List.replicate_append_replicate]
/-! marks are told -/
/-- a machine's cells, of one client: its partition, its marks -/
abbrev mch1 (m d s l p : Value) (t : Int) (P : Nat → Value) (pp : Nat) (v : Value) : List Value := [m, d, s, l, p, n64 t, P 0, pV pp, P 2, P 3, P 4, P 5, P 6, P 7, P 8, .slice none 0 0, v, .slice none 0 0, .slice none 0 0, .slice none 0 0, .slice none 0 0, .slice none 0 0, .slice none 0 0, .slice none 0 0]
theorem mch1_of {m d s l p : Value} {t : Int} {P : Nat → Value} {pp : Nat} (h : P 1 = pV pp) : mchC m d s l p t P nilS = mch1 m d s l p t P pp (.slice none 0 0) := by
  show [m, d, s, l, p, n64 t, P 0, P 1, P 2, P 3, P 4, P 5, P 6, P 7, P 8, .slice none 0 0, .slice none 0 0, .slice none 0 0, .slice none 0 0, .slice none 0 0, .slice none 0 0, .slice none 0 0, .slice none 0 0, .slice none 0 0] = _
  rw [h]
theorem Tryz.mchPlan (bx bp : Nat) (m d s l v : Value) (t : Int) (P : Nat → Value) (pp : Nat) (L : List HP) : Con Tryz.prog 29 [pV bx] (ptc bx 74 (mch1 m d s l (pV bp) t P pp v) :: L) (Is (pV bp) (ptc bx 74 (mch1 m d s l (pV bp) t P pp v) :: L)) := by
  refine con_of Tryz.tysOk Tryz.func29 rfl rfl ?_
  conv => whnf
  repeat' (first
    | ((with_reducible refine Br.sn ?_); conv => whnf)
    | (refine Ld.at 0 rfl rfl ?_; conv => whnf))
  all_goals first | (exfalso; omega) | (refine Is.ent ?_ ?_; (focus (exact Ent.rfl)); (exact Is.rfl))
theorem Tryz.mchOwners (C : Cfg) (bx bp : Nat) (m d s l v : Value) (t : Int) (P : Nat → Value) (pp : Nat) (L : List HP) : Con Tryz.prog 11 [pV bx] (ptc bx 74 (mch1 m d s l (pV bp) t P pp v) :: Tryz.plnH C bp :: L) (Is (n64 C.xs.length) (ptc bx 74 (mch1 m d s l (pV bp) t P pp v) :: Tryz.plnH C bp :: L)) := by
  have ho := fun L => Tryz.plnOwners C bp L
  refine con_of Tryz.tysOk Tryz.func11 rfl rfl ?_
  conv => whnf
  repeat' (first | ((refine Cl.isAt 0 rfl (Tryz.mchPlan bx bp _ _ _ _ _ _ _ _ _) ?_); conv => whnf) | ((refine Cl.isAt 1 rfl (ho _) ?_); conv => whnf))
  all_goals first | (exfalso; omega) | (refine Is.ent ?_ ?_; (focus (exact Ent.rfl)); (exact Is.rfl))
theorem Tryz.mchTell (C : Cfg) (bx bp bl : Nat) (m d s : Value) (t : Int) (P : Nat → Value) (pp : Nat) (ta la : Option Addr) (tc lc : Nat) (ms ls : List Mk6) (L : List HP) (h : C.xs.length = 1) (hn : ms.length ≤ 100) (hn2 : ls.length ≤ 100)
    (hc : ms.length ≤ tc) (had : Ad ta ms.length) (hlad : Ad la ls.length) :
    Con Tryz.prog 81 [pV bx, n64 1, n64 0, .slice la ls.length lc] (ptc bx 74 (mch1 m d s (pV bl) (pV bp) t P pp (.slice ta ms.length tc)) :: Tryz.plnH C bp :: ptc bl 176 (brdC 0 0 1) :: own markE 107 ta tc ms :: own markE 107 la lc ls :: L)
      (Exs (fun _ : Option Addr × Nat => .tuple #[]) (fun z => ptc bx 74 (mch1 m d s (pV bl) (pV bp) t P pp (.slice z.1 (ms ++ ls).length z.2)) :: Tryz.plnH C bp :: ptc bl 176 (brdC 0 0 1) :: own markE 107 z.1 z.2 (ms ++ ls) :: L) (fun z => (ms ++ ls).length ≤ z.2 ∧ Ad z.1 (ms ++ ls).length)) := by
  have ho := fun m d s l v t P pp L => Tryz.mchOwners C bx bp m d s l v t P pp L
  rw [h] at ho
  have hr := fun L => Tryz.brdRaise bl L
  clear h
  refine con_of Tryz.tysOk Tryz.func81 rfl rfl ?_
  conv => whnf
  repeat' (first
    | (first | ((with_reducible refine Br.ff ?_); conv => whnf) | ((with_reducible refine Br.df ?_ ?_); (focus (first | assumption | omega)); conv => whnf))
    | ((with_reducible refine Nd.mk ?_ ?_); (focus (first | omega | rfl | assumption | (simp; done))); conv => whnf)
    | ((refine Ix.arr (by decide) ?_); conv => whnf)
    | (first | (refine Ld.at 0 rfl rfl ?_; conv => whnf) | (refine Ld.at 1 rfl rfl ?_; conv => whnf))
    | (refine St.at 1 rfl (by first | exact Nat.le_of_ble_eq_true rfl | (simp; done)) rfl ?_; conv => whnf)
    | ((with_reducible refine Dr.by (id := 1) Tryz.tysOk rfl [(0, 0), (1, 0), (2, 0), (3, 0), (4, 0), (5, 0), (6, 0), (8, 0), (10, 0), (11, 0), (7, 1), (9, 3), (12, 0), (13, 3)] ?_ ?_); (focus kernel_rfl); conv => whnf)
    | (first | ((refine Cl.isAt2 0 0 rfl rfl (ho _ _ _ _ _ _ _ _ _) ?_); conv => whnf) | ((refine Cl.isAt 3 rfl (hr _) ?_); conv => whnf))
    | ((with_reducible refine (?_ : Sm _ (Builtin.append_ _ _ _) _ _)); (((with_reducible apply (Sm.appAt (E := markE) (et := 107) Tryz.tysOk 3)); (focus rfl)); ((focus rfl); (focus ((repeat ((refine Rd.own 4 rfl ?_); (assumption))); done))); (focus rfl); (focus rfl); (focus rfl); (focus rfl); (focus rfl); (focus rfl); (focus (omega)); (intro _ _ _ _); conv => whnf)))
  all_goals try (exfalso; omega)
  all_goals (rename_i a3 c3 hc3 had3; exact Exs.of ((a3, c3) : Option Addr × Nat) (by (try dsimp only); (refine FEnt.ent ?_; (repeat (first | exact FEnt.rfl | (refine FEnt.at 0 rfl ?_; (try simp only [List.eraseIdx_cons_zero, List.eraseIdx_cons_succ, List.eraseIdx_zero, List.tail_cons])) | (refine FEnt.at 1 rfl ?_; (try simp only [List.eraseIdx_cons_zero, List.eraseIdx_cons_succ, List.eraseIdx_zero, List.tail_cons])) | refine FEnt.drop ?_)); done)) ⟨hc3, had3⟩ rfl)
/-- a machine of one client, with its partition's state and its marks -/
abbrev Tryz.mcH (C : Cfg) (bx bm bd bs bl bp : Nat) (t : Int) (P : Nat → Value) (pp : Nat) (q : Mch) (ta : Option Addr) (tc : Nat) (ms : List Mk6) (L : List HP) : List HP :=
  ptc bx 74 (mch1 (pV bm) (pV bd) (pV bs) (pV bl) (pV bp) t P pp (.slice ta ms.length tc)) :: Tryz.memH bm mem0 :: Tryz.plnH C bp :: ptc bl 176 (brdC 0 0 1) :: ptc pp 183 (parC bm 128 64 1 q) :: own markE 107 ta tc ms :: L
theorem i0 : I64 0 := ⟨by decide, by decide⟩
theorem Tryz.mchOpen (C : Cfg) (bx bm bd bs bl bp : Nat) (t : Int) (P : Nat → Value) (pp : Nat) (q : Mch) (ta : Option Addr) (tc : Nat) (ms : List Mk6) (L : List HP) (h : C.xs.length = 1) (hn : ms.length ≤ 90) (hc : ms.length ≤ tc) (had : Ad ta ms.length) (hV : q.V = zeros 64) :
    Con Tryz.prog 83 [pV bx, n64 1] (Tryz.mcH C bx bm bd bs bl bp t P pp q ta tc ms L)
      (Exs (fun _ : Option Addr × Nat => .tuple #[]) (fun z => Tryz.mcH C bx bm bd bs bl bp t P pp (opnF q) z.1 z.2 (ms ++ opnL q t 0) L) (fun z => (ms ++ opnL q t 0).length ≤ z.2 ∧ Ad z.1 (ms ++ opnL q t 0).length)) := by
  have hpo : ∀ L, Con Tryz.prog 145 [pV pp, i64W t, i64W 0] (ptc pp 183 (parC bm 128 64 1 q) :: Tryz.memH bm mem0 :: L) (New markE 107 (opnL q t 0) (ptc pp 183 (parC bm 128 64 1 (opnF q)) :: Tryz.memH bm mem0 :: L)) := fun L => by
    have := Tryz.parOpen pp bm (zeros 128) (zeros 16192) 128 64 1 t 0 q L (by rw [List.length_replicate]; rfl) (by rw [hV, List.length_replicate]; rfl) (by rw [hV, ← mem0_cut, mem0_len]; exact Nat.le_refl _)
    rwa [hV, ← mem0_cut] at this
  have hl2 : (opnL q t 0).length ≤ 2 := by unfold opnL; rw [if_pos rfl]; exact Nat.le_succ 1
  generalize opnL q t 0 = ls at *
  generalize opnF q = q' at *
  have htl := fun la lc L hlad => Tryz.mchTell C bx bp bl (pV bm) (pV bd) (pV bs) t P pp ta la tc lc ms ls L h (by omega) (by omega) hc had hlad
  have hbo := fun L => Tryz.brdOpen bl L
  clear h hV
  unfold Tryz.mcH
  generalize mem0 = Z at *
  refine con_of Tryz.tysOk Tryz.func83 rfl rfl ?_
  conv => whnf
  repeat' (first
    | ((refine Ix.arr (by decide) ?_); conv => whnf)
    | (refine Ld.at 0 rfl rfl ?_; conv => whnf)
    | ((with_reducible refine Dr.by (id := 1) Tryz.tysOk rfl [(0, 0), (1, 0), (2, 0), (3, 0), (4, 0), (5, 0), (6, 0), (8, 0), (9, 0), (10, 0), (12, 0), (7, 1), (11, 1), (13, 3), (14, 3)] ?_ ?_); (focus kernel_rfl); conv => whnf)
    | (first | ((refine Cl.isAt 3 rfl (hbo _) ?_); conv => whnf) | ((with_reducible refine (?_ : Cl _ 145 _ _ _ _)); (apply Cl.pre [ptc pp _ _, Tryz.memH _ _]; (focus (repeat (first | exact FEnt.rfl | (refine FEnt.at 1 rfl ?_; (try simp only [List.eraseIdx_cons_zero, List.eraseIdx_cons_succ, List.eraseIdx_zero, List.tail_cons])) | (refine FEnt.at 4 rfl ?_; (try simp only [List.eraseIdx_cons_zero, List.eraseIdx_cons_succ, List.eraseIdx_zero, List.tail_cons])))); done); refine Cl.new (hpo _) (fun la lc hlc hlad => ?_)); conv => whnf) | ((with_reducible refine (?_ : Cl _ 81 _ _ _ _)); (apply Cl.pre [ptc bx _ _, Tryz.plnH _ _, ptc bl _ _, own markE _ ta tc ms, own markE _ la lc ls]; (focus (repeat (first | exact FEnt.rfl | (refine FEnt.at 3 rfl ?_; (try simp only [List.eraseIdx_cons_zero, List.eraseIdx_cons_succ, List.eraseIdx_zero, List.tail_cons])))); done); refine Cl.exs (htl _ _ _ hlad) ?_; rintro ⟨za, zc⟩ ⟨hz1, hz2⟩); conv => whnf)))
  all_goals try (exfalso; omega)
  all_goals exact Exs.of ((za, zc) : Option Addr × Nat) (by (try dsimp only); (refine FEnt.ent ?_; (repeat (first | exact FEnt.rfl | (refine FEnt.at 0 rfl ?_; (try simp only [List.eraseIdx_cons_zero, List.eraseIdx_cons_succ, List.eraseIdx_zero, List.tail_cons])) | (refine FEnt.at 1 rfl ?_; (try simp only [List.eraseIdx_cons_zero, List.eraseIdx_cons_succ, List.eraseIdx_zero, List.tail_cons])) | (refine FEnt.at 4 rfl ?_; (try simp only [List.eraseIdx_cons_zero, List.eraseIdx_cons_succ, List.eraseIdx_zero, List.tail_cons])))); done)) ⟨hz1, hz2⟩ rfl
theorem Tryz.mchRun1 (C : Cfg) (bx bm bs bl bp ba : Nat) (b' bu mu l f bn mn p g bk be : Nat) (d0 : Dsk) (R : List Dsk) (y : Qu) (t : Int) (P : Nat → Value) (pp : Nat) (q q' : Mch) (ls : List Mk6) (ta : Option Addr) (tc : Nat) (ms : List Mk6) (L : List HP) (hC : isC0 C) (ht : 0 ≤ t ∧ t < 20) (hn : ms.length ≤ 90) (hc : ms.length ≤ tc) (had : Ad ta ms.length)
    (hq : Mok q) (hV : q.V = zeros 64) (hV' : q'.V = zeros 64) (hl2 : ls.length ≤ 2) (e : pstF q (t, 0, 0, 0, 0) = q' ∧ pstL q (t, 0, 0, 0, 0) = ls ∧ pstB q = false) :
    Con Tryz.prog 86 [pV bx, n64 1] (Tryz.mcH C bx bm b' bs bl bp t P pp q ta tc ms (Tryz.srvP bs bp bm b' ba d0 R y :: Tryz.devH (dv1 b' bu mu l f bn mn p g bk be) :: L))
      (Exs (fun _ : Option Addr × Nat => .tuple #[]) (fun z => Tryz.mcH C bx bm b' bs bl bp t P pp q' z.1 z.2 (ms ++ ls) (Tryz.srvP bs bp bm b' ba d0 R y :: Tryz.devH (dv1 b' bu mu l f bn mn p g bk be) :: L)) (fun z => (ms ++ ls).length ≤ z.2 ∧ Ad z.1 (ms ++ ls).length)) := by
  have h : C.xs.length = 1 := by rw [hC.2.2.2]; rfl
  have hF : C.F = 20 := hC.1
  have hfr := fun L => Tryz.plnFrame C bp L
  rw [hF] at hfr
  have hck := fun L => Tryz.clk20 t L ht
  have hdn := fun L => Tryz.srvDone C bs bp bm b' ba d0 R y L h
  have hdr := fun L => Tryz.devDrops1 b' bu mu l f bn mn p g bk be L
  have hdl := fun L => Tryz.brdDelivered bl L
  have hst : ∀ L, Con Tryz.prog 153 [pV pp, fctV (t, 0, 0, 0, 0)] (ptc pp 183 (parC bm 128 64 1 q) :: Tryz.memH bm mem0 :: L)
      (Exs (fun y : Option Addr × Nat => .tuple #[.slice y.1 ls.length y.2, .bool false]) (fun y => own markE 107 y.1 y.2 ls :: ptc pp 183 (parC bm 128 64 1 q') :: Tryz.memH bm mem0 :: L) (fun y => ls.length ≤ y.2 ∧ Ad y.1 ls.length)) := fun L => by
    have := Tryz.parStep pp bm (zeros 128) (zeros 16192) 128 64 1 (t, 0, 0, 0, 0) q L (by rw [List.length_replicate]; rfl) (by rw [hV, List.length_replicate]; rfl) (by rw [hV, ← mem0_cut, mem0_len]; exact Nat.le_refl _) hq ⟨⟨by show _ ≤ t; omega, by show t ≤ _; omega⟩, i0, i0, i0, i0⟩
    rwa [e.1, e.2.1, e.2.2, hV, hV', ← mem0_cut] at this
  have htl := fun la lc L hlad => Tryz.mchTell C bx bp bl (pV bm) (pV b') (pV bs) t P pp ta la tc lc ms ls L h (by omega) (by omega) hc had hlad
  clear h hF hV hV' e hq hC
  unfold Tryz.mcH
  generalize mem0 = Z at *
  refine con_of Tryz.tysOk Tryz.func86 rfl rfl ?_
  conv => whnf
  repeat' (first
    | ((with_reducible refine Br.ff ?_); conv => whnf)
    | ((with_reducible refine Nd.mk ?_ ?_); (focus (first | omega | rfl | assumption | (simp; done))); conv => whnf)
    | ((refine Ix.arr (by decide) ?_); conv => whnf)
    | (refine Ld.at 0 rfl rfl ?_; conv => whnf)
    | ((with_reducible refine Dr.by (id := 0) Tryz.tysOk rfl [(0, 0), (1, 0), (2, 0), (4, 0), (5, 0), (6, 0), (3, 1), (7, 1), (8, 1), (9, 1), (10, 0), (11, 0), (12, 0), (13, 0), (14, 0)] ?_ ?_); (focus kernel_rfl); conv => whnf)
    | ((with_reducible refine Dr.by (id := 1) Tryz.tysOk rfl [(0, 0), (1, 0), (2, 0), (3, 0), (4, 0), (6, 0), (7, 0), (8, 0), (10, 0), (11, 0), (12, 0), (13, 0), (14, 0), (16, 0), (18, 0), (19, 0), (20, 0), (21, 0), (23, 0), (25, 0), (26, 0), (27, 0), (28, 0), (30, 0), (5, 1), (9, 1), (15, 1), (17, 1), (22, 1), (24, 1), (29, 1), (31, 1), (32, 0), (33, 3), (34, 0), (35, 0), (36, 0), (37, 0), (38, 0)] ?_ ?_); (focus kernel_rfl); conv => whnf)
    | (first | ((with_reducible refine CD.is (fun M => hck _) ?_); conv => whnf) | ((with_reducible refine CD.isAt 2 rfl (fun M => hfr _) ?_); conv => whnf) | ((with_reducible refine CD.isAt 7 rfl (fun M => hdr _) ?_); conv => whnf) | ((with_reducible refine CD.isAt 3 rfl (fun M => hdl _) ?_); conv => whnf) | ((with_reducible refine (?_ : CD _ 154 _ _ _)); (refine CD.isAt2 6 2 rfl rfl (fun M => hdn _) ?_); conv => whnf))
    | (first | (apply (Cl.pre [ptc pp _ _, Tryz.memH _ _]); (focus ((repeat (first | exact FEnt.rfl | (refine FEnt.at 1 rfl ?_; (try simp only [List.eraseIdx_cons_zero, List.eraseIdx_cons_succ, List.eraseIdx_zero, List.tail_cons])) | (refine FEnt.at 4 rfl ?_; (try simp only [List.eraseIdx_cons_zero, List.eraseIdx_cons_succ, List.eraseIdx_zero, List.tail_cons])))); done)); refine Cl.exs (hst _) ?_; rintro ⟨la, lc⟩ ⟨hl1, hlad⟩; conv => whnf) | ((with_reducible refine (?_ : Cl _ 81 _ _ _ _)); (apply Cl.pre [ptc bx _ _, Tryz.plnH _ _, ptc bl _ _, own markE _ ta tc ms, own markE _ la lc ls]; (focus (repeat (first | exact FEnt.rfl | (refine FEnt.at 3 rfl ?_; (try simp only [List.eraseIdx_cons_zero, List.eraseIdx_cons_succ, List.eraseIdx_zero, List.tail_cons])))); done); refine Cl.exs (htl _ _ _ hlad) ?_; rintro ⟨za, zc⟩ ⟨hz1, hz2⟩); conv => whnf)))
  all_goals try (exfalso; omega)
  all_goals exact Exs.of ((za, zc) : Option Addr × Nat) (by (try dsimp only); (refine FEnt.ent ?_; (repeat (first | exact FEnt.rfl | (refine FEnt.at 0 rfl ?_; (try simp only [List.eraseIdx_cons_zero, List.eraseIdx_cons_succ, List.eraseIdx_zero, List.tail_cons])) | (refine FEnt.at 1 rfl ?_; (try simp only [List.eraseIdx_cons_zero, List.eraseIdx_cons_succ, List.eraseIdx_zero, List.tail_cons])) | (refine FEnt.at 4 rfl ?_; (try simp only [List.eraseIdx_cons_zero, List.eraseIdx_cons_succ, List.eraseIdx_zero, List.tail_cons])))); done)) ⟨hz1, hz2⟩ rfl
end Go.Proofs
