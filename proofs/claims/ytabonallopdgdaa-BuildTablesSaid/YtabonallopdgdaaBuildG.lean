/- Tables of wishes, by the document: what they are: contracts. -/
import Derived.Test.YtabonallopdgdaaBuildE
set_option linter.all false
namespace Go.Proofs
open Go.Eng
open Classical
set_option linter.unusedVariables false
set_option maxRecDepth 100000
set_option maxHeartbeats 2000000
theorem Try.refTables (a : Option Addr) (c : Nat) (xs : List Wsh) (L : List HP) (h : HadT xs) (hr : Rd wsE L a xs) :
    Con Try.prog 10 [.slice a xs.length c] L (Exs (fun y : (Option Addr × Nat) × (Option Addr × Nat) × (Option Addr × Nat) => .tuple #[.agg #[n64 (frT xs xs.length), .slice y.1.1 (winT xs xs.length).length y.1.2, .slice y.2.1.1 (sloT xs xs.length).length y.2.1.2, .slice y.2.2.1 (cliT xs xs.length).length y.2.2.2], n64 0, n64 0])
      (fun y => own slE 62 y.1.1 y.1.2 (winT xs xs.length) :: own slE 67 y.2.1.1 y.2.1.2 (sloT xs xs.length) :: own clE 64 y.2.2.1 y.2.2.2 (cliT xs xs.length) :: L)
      (fun y => ((winT xs xs.length).length ≤ y.1.2 ∧ Ad y.1.1 (winT xs xs.length).length) ∧ ((sloT xs xs.length).length ≤ y.2.1.2 ∧ Ad y.2.1.1 (sloT xs xs.length).length) ∧ ((cliT xs xs.length).length ≤ y.2.2.2 ∧ Ad y.2.2.1 (cliT xs xs.length).length))) := by
  obtain ⟨hl, hm, hp⟩ := h
  have hmy := fun w L (h : w ∈ xs) => Con.dt (hm w h) (Try.refMay w L)
  have hsm := fun i k L hk hi h' => Try.refSumsI a c xs i k L hl.2 hm hk hi h'
  have hbd := fun k hk => sums_bd hm hl.2 k hk
  have hq4 := sumB_q xs
  have hcl := fun k b f m h L (hk : k < xs.length) => Try.refClient (xs.getD k wsE.d) b f m h L (hm _ (getD_mem hk))
  have hfr : ∃ F, F = frT xs xs.length := ⟨_, rfl⟩
  clear hm
  refine con_of Try.tysOk Try.func10 rfl rfl ?_
  conv => whnf
  repeat' (first
    | (first | ((with_reducible refine Br.ff ?_); conv => whnf) | ((with_reducible refine Br.df ?_ ?_); (focus (first | assumption | omega)); conv => whnf))
    | ((with_reducible refine Nc.go' (fun _ => ?_)); conv => whnf))
  rename_i b2
  conv => whnf
  refine Lp.by Try.tysOk [6] (fun (k : Nat) => [.int .i64 k]) (fun k => ptc b2 34 [n64 0, .slice none 0 0, .slice none 0 0, .slice none 0 0] :: L) (fun k => k ≤ xs.length) (fun k => xs.length - k) (0) (by kernel_rfl) (by (exact Ent.rfl)) (by omega) ?_
  rintro k g1
  conv => whnf
  repeat (intro _; conv => whnf)
  by_cases hk : k < xs.length
  · clear hbd hq4 hsm hcl hp
    conv => whnf
    repeat' (first
      | (first | ((with_reducible refine Br.nt ?_); conv => whnf) | ((with_reducible refine Br.dt ?_ ?_); (focus (first | assumption | omega)); conv => whnf))
      | ((with_reducible refine Ar.i64 ?_ ?_); (focus omega); conv => whnf)
      | ((with_reducible refine Ix.ad ?_ ?_ ?_); (focus (exact Rd.ad (by assumption))); (focus (omega)); conv => whnf)
      | ((with_reducible apply LdN.rdk); (focus ((repeat (first | assumption | apply Rd.cons)); done)); (focus rfl); (focus rfl); (focus (omega)); conv => whnf)
      | ((with_reducible refine Cl.is (hmy _ _ (getD_mem (d := wsE.d) hk)) ?_); conv => whnf))
    refine ⟨k + 1, by kernel_rfl, by (exact Ent.rfl), by omega, by omega⟩
  · skip
    conv => whnf
    repeat' ((with_reducible refine Br.df ?_ ?_); (focus (first | assumption | omega)); conv => whnf)
    conv => whnf
    refine Lp.by Try.tysOk [7] (fun (k : Nat) => [n64 ((k : Int) + 1)]) (fun k => ptc b2 34 [n64 0, .slice none 0 0, .slice none 0 0, .slice none 0 0] :: L) (fun k => k ≤ xs.length) (fun k => xs.length - k) (0) (by kernel_rfl) (by (exact Ent.rfl)) (by omega) ?_
    rintro k g2
    conv => whnf
    repeat (intro _; conv => whnf)
    by_cases hk2 : k < xs.length
    · have hbk := hbd (k + 1) (by omega)
      have hqk := hq4 (k + 1) (by omega)
      have hsk := fun L h => hsm ((k : Int) + 1) (k + 1) L (by omega) (by omega) h
      have hpk := hp k hk2
      clear hp hsm hbd hq4 hcl
      conv => whnf
      repeat' (first
        | (first | ((with_reducible refine Br.ff ?_); conv => whnf) | ((with_reducible refine Br.dt ?_ ?_); (focus (first | assumption | omega)); conv => whnf) | ((with_reducible refine Br.df ?_ ?_); (focus (first | assumption | omega)); conv => whnf))
        | ((with_reducible refine Ar.i64 ?_ ?_); (focus omega); conv => whnf)
        | ((with_reducible refine Nd.mk ?_ ?_); (focus (first | omega | rfl | assumption | (simp; done))); conv => whnf)
        | ((with_reducible refine Nc.go' (fun _ => ?_)); conv => whnf)
        | (refine Ld.at 0 rfl rfl ?_; conv => whnf)
        | (refine St.at 0 rfl (by first | exact Nat.le_of_ble_eq_true rfl | (simp; done)) rfl ?_; conv => whnf)
        | ((with_reducible refine Cl.is (hsk _ (by ((repeat (first | assumption | apply Rd.cons)); done))) ?_); conv => whnf))
      refine ⟨k + 1, by kernel_rfl, by (refine FEnt.ent ?_; (repeat (first | exact FEnt.rfl | (refine FEnt.at 1 rfl ?_; (try simp only [List.eraseIdx_cons_zero, List.eraseIdx_cons_succ, List.eraseIdx_zero, List.tail_cons])) | refine FEnt.drop ?_)); done), by omega, by omega⟩
    · have hsl := fun L h => hsm (xs.length : Int) xs.length L rfl (Nat.le_refl _) h
      have hbl := hbd xs.length (Nat.le_refl _)
      have hql := hq4 xs.length (Nat.le_refl _)
      have hpl := hp (xs.length - 1) (by omega)
      rw [show xs.length - 1 + 1 = xs.length from by omega] at hpl
      have hfr : frT xs xs.length = max (2 * (xs.length : Int) + sumB pF xs xs.length) (sumB qF xs xs.length) := by
        obtain ⟨m, hm⟩ : ∃ m, xs.length = m + 1 := ⟨xs.length - 1, by omega⟩
        rw [hm]
        show max (2 * ((xs.length : Nat) : Int) + _) _ = _
        rw [hm]
      skip
      conv => whnf
      repeat' (first
        | ((with_reducible refine Br.df ?_ ?_); (focus (first | assumption | omega)); conv => whnf)
        | ((with_reducible refine Ar.i64 ?_ ?_); (focus omega); conv => whnf)
        | ((with_reducible refine Nd.mk ?_ ?_); (focus (first | omega | rfl | assumption | (simp; done))); conv => whnf)
        | ((with_reducible refine Nc.go' (fun _ => ?_)); conv => whnf)
        | (first | (refine Ld.at 0 rfl rfl ?_; conv => whnf) | (refine Ld.at 1 rfl rfl ?_; conv => whnf))
        | (first | (refine St.at 0 rfl (by first | exact Nat.le_of_ble_eq_true rfl | (simp; done)) rfl ?_; conv => whnf) | (refine St.at 2 rfl (by first | exact Nat.le_of_ble_eq_true rfl | (simp; done)) rfl ?_; conv => whnf))
        | ((with_reducible refine Cl.is (hsl _ (by ((repeat (first | assumption | apply Rd.cons)); done))) ?_); conv => whnf)
        | ((with_reducible refine (?_ : Sm _ (Builtin.append_ _ _ _) _ _)); ((with_reducible_and_instances apply (Sm.appNil (E := slE) (et := 62) Try.tysOk)); (rotate_left; (focus (exact Rd.ptc 0 rfl [(_, _, _)] rfl)); rotate_right; (focus rfl)); (focus rfl); (focus rfl); (focus rfl); (focus rfl); (focus rfl); (focus ((simp only [List.length_append, List.length_cons, List.length_nil]); omega)); (intro _ _ _ _); conv => whnf))
        | ((with_reducible refine Br.ds (fun _ => ?_) (fun _ => ?_) ) <;> (conv => whnf)))
      · rename_i b9 b10 hlt x0 wa0 wc0 hw1 hw2
        conv => whnf
        refine Lp.by3 Try.tysOk [11] (fun (k : Nat) (F : Int) (P : (Option Addr × Nat × List Slt) × (Option Addr × Nat × List Slt) × (Option Addr × Nat × List Cli)) => [n64 ((k : Int) + 1)]) (fun k F P => ptc b10 34 [n64 F, .slice P.1.1 P.1.2.2.length P.1.2.1, .slice P.2.1.1 P.2.1.2.2.length P.2.1.2.1, .slice P.2.2.1 P.2.2.2.2.length P.2.2.2.1] :: own slE 62 P.1.1 P.1.2.1 P.1.2.2 :: own slE 67 P.2.1.1 P.2.1.2.1 P.2.1.2.2 :: own clE 64 P.2.2.1 P.2.2.2.1 P.2.2.2.2 :: ptc b2 34 [n64 0, .slice none 0 0, .slice none 0 0, .slice none 0 0] :: L) (fun k F P => k ≤ xs.length ∧ F = frT xs xs.length ∧ (P.1.2.2 = winT xs k ∧ P.1.2.2.length ≤ P.1.2.1 ∧ Ad P.1.1 P.1.2.2.length) ∧ (P.2.1.2.2 = sloT xs k ∧ P.2.1.2.2.length ≤ P.2.1.2.1 ∧ Ad P.2.1.1 P.2.1.2.2.length) ∧ (P.2.2.2.2 = cliT xs k ∧ P.2.2.2.2.length ≤ P.2.2.2.1 ∧ Ad P.2.2.1 P.2.2.2.2.length)) (fun k F P => xs.length - k) (0) ((4 * sumB qU xs xs.length)) (((wa0, wc0, [(0, 0, 2 * (xs.length : Int))]), (none, 0, []), (none, 0, []))) (by kernel_rfl) (by (refine FEnt.ent ?_; (repeat (first | exact FEnt.rfl | (refine FEnt.at 0 rfl ?_; (try simp only [List.eraseIdx_cons_zero, List.eraseIdx_cons_succ, List.eraseIdx_zero, List.tail_cons])) | (refine FEnt.at 2 rfl ?_; (try simp only [List.eraseIdx_cons_zero, List.eraseIdx_cons_succ, List.eraseIdx_zero, List.tail_cons])) | refine FEnt.nil ?_ | refine FEnt.drop ?_)); done)) (⟨by omega, by omega, ⟨rfl, hw1, hw2⟩, ⟨rfl, by simp, fun h => (h rfl).elim⟩, ⟨rfl, by simp, fun h => (h rfl).elim⟩⟩) ?_
        rintro k F ⟨⟨wa, wc, ws⟩, ⟨sa, sc, ss⟩, ⟨ca, cc, cs⟩⟩ ⟨g1, g2, ⟨w1, w2, w3⟩, ⟨s1, s2, s3⟩, ⟨c1, c2, c3⟩⟩
        conv => whnf
        repeat (intro _; conv => whnf)
        dsimp only at w1 w2 w3 s1 s2 s3 c1 c2 c3
        by_cases hk3 : k < xs.length
        · have hb0 := hbd k (by omega)
          have hb1 := hbd (k + 1) (by omega)
          have hq0 := hq4 k (by omega)
          have hq1 := hq4 (k + 1) (by omega)
          have hs0 := fun L h => hsm ((k : Int) + 1 - 1) k L (by omega) (by omega) h
          have hs1 := fun L h => hsm ((k : Int) + 1) (k + 1) L (by omega) (by omega) h
          have ej : ((k : Int) + 1 - 1).toNat = k := by omega
          have hc0 : ∀ L, Con Try.prog 28 [wsV (xs.getD ((k : Int) + 1 - 1).toNat wsE.d), n64 (sumB zF xs k + 128), n64 (sumB sF xs k), n64 ((k : Int) + 1), n64 ((k : Int) + 1)] L (Is (clV { cliW (xs.getD k wsE.d) with b := sumB zF xs k + 128, f := sumB sF xs k, m := (k : Int) + 1, h := (k : Int) + 1 }) L) := fun L => by
            rw [ej]
            exact hcl k _ _ _ _ L hk3
          have hwl : ws.length = k + 1 := by rw [w1]; simp [winT]
          have hsl' : ss.length = k := by rw [s1]; simp [sloT]
          have hcl' : cs.length = k := by rw [c1]; simp [cliT]
          clear hp hmy hsm hcl hbd hq4 hsl hpl hfr
          conv => whnf
          repeat' (first
            | ((with_reducible refine Br.dt ?_ ?_); (focus (first | assumption | omega)); conv => whnf)
            | ((with_reducible refine Ar.i64 ?_ ?_); (focus omega); conv => whnf)
            | ((with_reducible refine Nd.mk ?_ ?_); (focus (first | omega | rfl | assumption | (simp; done))); conv => whnf)
            | ((with_reducible refine Nc.go' (fun _ => ?_)); conv => whnf)
            | ((with_reducible refine Ix.ad ?_ ?_ ?_); (focus (exact Rd.ad (by assumption))); (focus (omega)); conv => whnf)
            | (first | (refine Ld.at 0 rfl rfl ?_; conv => whnf) | (refine Ld.at 1 rfl rfl ?_; conv => whnf) | (refine Ld.at 2 rfl rfl ?_; conv => whnf) | (refine Ld.at 3 rfl rfl ?_; conv => whnf) | (refine Ld.at 4 rfl rfl ?_; conv => whnf) | (refine Ld.at 5 rfl rfl ?_; conv => whnf) | (refine Ld.at 6 rfl rfl ?_; conv => whnf))
            | ((apply LdN.rd); (focus ((repeat (first | assumption | apply Rd.cons)); done)); (focus rfl); (focus rfl); (focus (omega)); conv => whnf)
            | (first | (refine St.at 0 rfl (by first | exact Nat.le_of_ble_eq_true rfl | (simp; done)) rfl ?_; conv => whnf) | (refine St.at 1 rfl (by first | exact Nat.le_of_ble_eq_true rfl | (simp; done)) rfl ?_; conv => whnf) | (refine St.at 4 rfl (by first | exact Nat.le_of_ble_eq_true rfl | (simp; done)) rfl ?_; conv => whnf) | (refine St.at 6 rfl (by first | exact Nat.le_of_ble_eq_true rfl | (simp; done)) rfl ?_; conv => whnf) | (refine St.at 8 rfl (by first | exact Nat.le_of_ble_eq_true rfl | (simp; done)) rfl ?_; conv => whnf))
            | ((with_reducible refine Dr.by (id := 26) Try.tysOk rfl [(0, 0), (2, 0), (3, 0), (4, 0), (5, 0), (7, 0), (10, 0), (12, 0), (13, 0), (1, 1), (6, 1), (8, 1), (9, 0), (11, 1), (14, 1), (15, 2), (16, 3), (17, 0), (18, 3)] ?_ ?_); (focus kernel_rfl); conv => whnf)
            | ((with_reducible refine CD.is (fun M => hc0 _) ?_); conv => whnf)
            | (first | ((with_reducible refine Cl.is (hs0 _ (by ((repeat (first | assumption | apply Rd.cons)); done))) ?_); conv => whnf) | ((with_reducible refine Cl.is (hs1 _ (by ((repeat (first | assumption | apply Rd.cons)); done))) ?_); conv => whnf))
            | ((with_reducible refine (?_ : Sm _ (Builtin.append_ _ _ _) _ _)); (first | (((with_reducible apply (Sm.appAt (E := slE) (et := 67) Try.tysOk 6)); (focus rfl)); (rotate_left; (focus (exact Rd.ptc 0 rfl [(_, _, _)] rfl)); rotate_right; (focus rfl)); (focus rfl); (focus rfl); (focus rfl); (focus rfl); (focus rfl); (focus rfl); (focus ((simp only [List.length_append, List.length_cons, List.length_nil]); omega)); (intro _ _ _ _); conv => whnf) | (((with_reducible apply (Sm.appAt (E := slE) (et := 62) Try.tysOk 4)); (focus rfl)); (rotate_left; (focus (exact Rd.ptc 0 rfl [(_, _, _)] rfl)); rotate_right; (focus rfl)); (focus rfl); (focus rfl); (focus rfl); (focus rfl); (focus rfl); (focus rfl); (focus ((simp only [List.length_append, List.length_cons, List.length_nil]); omega)); (intro _ _ _ _); conv => whnf) | (((with_reducible apply (Sm.appAt (E := clE) (et := 64) Try.tysOk 8)); (focus rfl)); (rotate_left; (focus (exact Rd.ptc 0 rfl [_] rfl)); rotate_right; (focus rfl)); (focus rfl); (focus rfl); (focus rfl); (focus rfl); (focus rfl); (focus rfl); (focus ((simp only [List.length_append, List.length_cons, List.length_nil]); omega)); (intro _ _ _ _); conv => whnf))))
          rename_i a5 c5 hc5 had5 x6 a6 c6 hc6 had6 x7 a7 c7 hc7 had7
          refine ⟨k + 1, F, ((a5, c5, ws ++ [((k : Int) + 1, sumB pF xs k + 2 * (xs.length : Int), sumB pF xs (k + 1) + 2 * (xs.length : Int))]), (a6, c6, ss ++ [((k : Int) + 1, 4 * sumB qU xs k, 4 * sumB qU xs (k + 1))]), (a7, c7, cs ++ [{ cliW (xs.getD k wsE.d) with b := sumB zF xs k + 128, f := sumB sF xs k, m := (k : Int) + 1, h := (k : Int) + 1 }])), by kernel_rfl, by (try dsimp only); (refine FEnt.ent ?_; (repeat (first | exact FEnt.rfl | (refine FEnt.at 0 rfl ?_; (try simp only [List.eraseIdx_cons_zero, List.eraseIdx_cons_succ, List.eraseIdx_zero, List.tail_cons])) | (refine FEnt.at 2 rfl ?_; (try simp only [List.eraseIdx_cons_zero, List.eraseIdx_cons_succ, List.eraseIdx_zero, List.tail_cons])) | (refine FEnt.at 4 rfl ?_; (try simp only [List.eraseIdx_cons_zero, List.eraseIdx_cons_succ, List.eraseIdx_zero, List.tail_cons])) | (refine FEnt.at 5 rfl ?_; (try simp only [List.eraseIdx_cons_zero, List.eraseIdx_cons_succ, List.eraseIdx_zero, List.tail_cons])) | (refine FEnt.at 8 rfl ?_; (try simp only [List.eraseIdx_cons_zero, List.eraseIdx_cons_succ, List.eraseIdx_zero, List.tail_cons])) | refine FEnt.drop ?_)); done), ⟨by omega, g2, ⟨?_, hc5, had5⟩, ⟨?_, hc6, had6⟩, ⟨?_, hc7, had7⟩⟩, by omega⟩
          · show ws ++ _ = winT xs (k + 1)
            unfold winT
            rw [range_snoc, w1]
            unfold winT
            rw [List.cons_append, Int.add_comm (sumB pF xs k), Int.add_comm (sumB pF xs (k + 1))]
          · show ss ++ _ = sloT xs (k + 1)
            unfold sloT
            rw [range_snoc, s1, ← hq0, ← hq1]
            rfl
          · show cs ++ _ = cliT xs (k + 1)
            unfold cliT
            rw [range_snoc, c1, Int.add_comm (sumB zF xs k)]
            rfl
        · have e : k = xs.length := by omega
          subst e
          subst w1 s1 c1 g2
          conv => whnf
          repeat' (first
            | ((with_reducible refine Br.df ?_ ?_); (focus (first | assumption | omega)); conv => whnf)
            | ((with_reducible refine Nd.mk ?_ ?_); (focus (first | omega | rfl | assumption | (simp; done))); conv => whnf)
            | (first | (refine LdN.at 0 rfl (by first | exact Nat.le_of_ble_eq_true rfl | (simp; done)) ?_; conv => whnf) | (refine LdN.at 4 rfl (by first | exact Nat.le_of_ble_eq_true rfl | (simp; done)) ?_; conv => whnf))
            | (refine St.at 4 rfl (by first | exact Nat.le_of_ble_eq_true rfl | (simp; done)) rfl ?_; conv => whnf))
          all_goals exact Exs.of (((wa, wc), (sa, sc), (ca, cc)) : (Option Addr × Nat) × (Option Addr × Nat) × (Option Addr × Nat)) (by (try dsimp only); (refine FEnt.ent ?_; (repeat (first | exact FEnt.rfl | (refine FEnt.at 1 rfl ?_; (try simp only [List.eraseIdx_cons_zero, List.eraseIdx_cons_succ, List.eraseIdx_zero, List.tail_cons])) | refine FEnt.drop ?_)); done)) ⟨⟨w2, w3⟩, ⟨s2, s3⟩, ⟨c2, c3⟩⟩ rfl
      · rename_i b9 b10 hlt x0 wa0 wc0 hw1 hw2
        conv => whnf
        refine Lp.by3 Try.tysOk [11] (fun (k : Nat) (F : Int) (P : (Option Addr × Nat × List Slt) × (Option Addr × Nat × List Slt) × (Option Addr × Nat × List Cli)) => [n64 ((k : Int) + 1)]) (fun k F P => ptc b10 34 [n64 F, .slice P.1.1 P.1.2.2.length P.1.2.1, .slice P.2.1.1 P.2.1.2.2.length P.2.1.2.1, .slice P.2.2.1 P.2.2.2.2.length P.2.2.2.1] :: own slE 62 P.1.1 P.1.2.1 P.1.2.2 :: own slE 67 P.2.1.1 P.2.1.2.1 P.2.1.2.2 :: own clE 64 P.2.2.1 P.2.2.2.1 P.2.2.2.2 :: ptc b2 34 [n64 0, .slice none 0 0, .slice none 0 0, .slice none 0 0] :: L) (fun k F P => k ≤ xs.length ∧ F = frT xs xs.length ∧ (P.1.2.2 = winT xs k ∧ P.1.2.2.length ≤ P.1.2.1 ∧ Ad P.1.1 P.1.2.2.length) ∧ (P.2.1.2.2 = sloT xs k ∧ P.2.1.2.2.length ≤ P.2.1.2.1 ∧ Ad P.2.1.1 P.2.1.2.2.length) ∧ (P.2.2.2.2 = cliT xs k ∧ P.2.2.2.2.length ≤ P.2.2.2.1 ∧ Ad P.2.2.1 P.2.2.2.2.length)) (fun k F P => xs.length - k) (0) ((sumB pF xs xs.length + 2 * (xs.length : Int))) (((wa0, wc0, [(0, 0, 2 * (xs.length : Int))]), (none, 0, []), (none, 0, []))) (by kernel_rfl) (by (refine FEnt.ent ?_; (repeat (first | exact FEnt.rfl | (refine FEnt.at 0 rfl ?_; (try simp only [List.eraseIdx_cons_zero, List.eraseIdx_cons_succ, List.eraseIdx_zero, List.tail_cons])) | (refine FEnt.at 2 rfl ?_; (try simp only [List.eraseIdx_cons_zero, List.eraseIdx_cons_succ, List.eraseIdx_zero, List.tail_cons])) | refine FEnt.nil ?_ | refine FEnt.drop ?_)); done)) (⟨by omega, by omega, ⟨rfl, hw1, hw2⟩, ⟨rfl, by simp, fun h => (h rfl).elim⟩, ⟨rfl, by simp, fun h => (h rfl).elim⟩⟩) ?_
        rintro k F ⟨⟨wa, wc, ws⟩, ⟨sa, sc, ss⟩, ⟨ca, cc, cs⟩⟩ ⟨g1, g2, ⟨w1, w2, w3⟩, ⟨s1, s2, s3⟩, ⟨c1, c2, c3⟩⟩
        conv => whnf
        repeat (intro _; conv => whnf)
        dsimp only at w1 w2 w3 s1 s2 s3 c1 c2 c3
        by_cases hk3 : k < xs.length
        · have hb0 := hbd k (by omega)
          have hb1 := hbd (k + 1) (by omega)
          have hq0 := hq4 k (by omega)
          have hq1 := hq4 (k + 1) (by omega)
          have hs0 := fun L h => hsm ((k : Int) + 1 - 1) k L (by omega) (by omega) h
          have hs1 := fun L h => hsm ((k : Int) + 1) (k + 1) L (by omega) (by omega) h
          have ej : ((k : Int) + 1 - 1).toNat = k := by omega
          have hc0 : ∀ L, Con Try.prog 28 [wsV (xs.getD ((k : Int) + 1 - 1).toNat wsE.d), n64 (sumB zF xs k + 128), n64 (sumB sF xs k), n64 ((k : Int) + 1), n64 ((k : Int) + 1)] L (Is (clV { cliW (xs.getD k wsE.d) with b := sumB zF xs k + 128, f := sumB sF xs k, m := (k : Int) + 1, h := (k : Int) + 1 }) L) := fun L => by
            rw [ej]
            exact hcl k _ _ _ _ L hk3
          have hwl : ws.length = k + 1 := by rw [w1]; simp [winT]
          have hsl' : ss.length = k := by rw [s1]; simp [sloT]
          have hcl' : cs.length = k := by rw [c1]; simp [cliT]
          clear hp hmy hsm hcl hbd hq4 hsl hpl hfr
          conv => whnf
          repeat' (first
            | ((with_reducible refine Br.dt ?_ ?_); (focus (first | assumption | omega)); conv => whnf)
            | ((with_reducible refine Ar.i64 ?_ ?_); (focus omega); conv => whnf)
            | ((with_reducible refine Nd.mk ?_ ?_); (focus (first | omega | rfl | assumption | (simp; done))); conv => whnf)
            | ((with_reducible refine Nc.go' (fun _ => ?_)); conv => whnf)
            | ((with_reducible refine Ix.ad ?_ ?_ ?_); (focus (exact Rd.ad (by assumption))); (focus (omega)); conv => whnf)
            | (first | (refine Ld.at 0 rfl rfl ?_; conv => whnf) | (refine Ld.at 1 rfl rfl ?_; conv => whnf) | (refine Ld.at 2 rfl rfl ?_; conv => whnf) | (refine Ld.at 3 rfl rfl ?_; conv => whnf) | (refine Ld.at 4 rfl rfl ?_; conv => whnf) | (refine Ld.at 5 rfl rfl ?_; conv => whnf) | (refine Ld.at 6 rfl rfl ?_; conv => whnf))
            | ((apply LdN.rd); (focus ((repeat (first | assumption | apply Rd.cons)); done)); (focus rfl); (focus rfl); (focus (omega)); conv => whnf)
            | (first | (refine St.at 0 rfl (by first | exact Nat.le_of_ble_eq_true rfl | (simp; done)) rfl ?_; conv => whnf) | (refine St.at 1 rfl (by first | exact Nat.le_of_ble_eq_true rfl | (simp; done)) rfl ?_; conv => whnf) | (refine St.at 4 rfl (by first | exact Nat.le_of_ble_eq_true rfl | (simp; done)) rfl ?_; conv => whnf) | (refine St.at 6 rfl (by first | exact Nat.le_of_ble_eq_true rfl | (simp; done)) rfl ?_; conv => whnf) | (refine St.at 8 rfl (by first | exact Nat.le_of_ble_eq_true rfl | (simp; done)) rfl ?_; conv => whnf))
            | ((with_reducible refine Dr.by (id := 26) Try.tysOk rfl [(0, 0), (2, 0), (3, 0), (4, 0), (5, 0), (7, 0), (10, 0), (12, 0), (13, 0), (1, 1), (6, 1), (8, 1), (9, 0), (11, 1), (14, 1), (15, 2), (16, 3), (17, 0), (18, 3)] ?_ ?_); (focus kernel_rfl); conv => whnf)
            | ((with_reducible refine CD.is (fun M => hc0 _) ?_); conv => whnf)
            | (first | ((with_reducible refine Cl.is (hs0 _ (by ((repeat (first | assumption | apply Rd.cons)); done))) ?_); conv => whnf) | ((with_reducible refine Cl.is (hs1 _ (by ((repeat (first | assumption | apply Rd.cons)); done))) ?_); conv => whnf))
            | ((with_reducible refine (?_ : Sm _ (Builtin.append_ _ _ _) _ _)); (first | (((with_reducible apply (Sm.appAt (E := slE) (et := 67) Try.tysOk 6)); (focus rfl)); (rotate_left; (focus (exact Rd.ptc 0 rfl [(_, _, _)] rfl)); rotate_right; (focus rfl)); (focus rfl); (focus rfl); (focus rfl); (focus rfl); (focus rfl); (focus rfl); (focus ((simp only [List.length_append, List.length_cons, List.length_nil]); omega)); (intro _ _ _ _); conv => whnf) | (((with_reducible apply (Sm.appAt (E := slE) (et := 62) Try.tysOk 4)); (focus rfl)); (rotate_left; (focus (exact Rd.ptc 0 rfl [(_, _, _)] rfl)); rotate_right; (focus rfl)); (focus rfl); (focus rfl); (focus rfl); (focus rfl); (focus rfl); (focus rfl); (focus ((simp only [List.length_append, List.length_cons, List.length_nil]); omega)); (intro _ _ _ _); conv => whnf) | (((with_reducible apply (Sm.appAt (E := clE) (et := 64) Try.tysOk 8)); (focus rfl)); (rotate_left; (focus (exact Rd.ptc 0 rfl [_] rfl)); rotate_right; (focus rfl)); (focus rfl); (focus rfl); (focus rfl); (focus rfl); (focus rfl); (focus rfl); (focus ((simp only [List.length_append, List.length_cons, List.length_nil]); omega)); (intro _ _ _ _); conv => whnf))))
          rename_i a5 c5 hc5 had5 x6 a6 c6 hc6 had6 x7 a7 c7 hc7 had7
          refine ⟨k + 1, F, ((a5, c5, ws ++ [((k : Int) + 1, sumB pF xs k + 2 * (xs.length : Int), sumB pF xs (k + 1) + 2 * (xs.length : Int))]), (a6, c6, ss ++ [((k : Int) + 1, 4 * sumB qU xs k, 4 * sumB qU xs (k + 1))]), (a7, c7, cs ++ [{ cliW (xs.getD k wsE.d) with b := sumB zF xs k + 128, f := sumB sF xs k, m := (k : Int) + 1, h := (k : Int) + 1 }])), by kernel_rfl, by (try dsimp only); (refine FEnt.ent ?_; (repeat (first | exact FEnt.rfl | (refine FEnt.at 0 rfl ?_; (try simp only [List.eraseIdx_cons_zero, List.eraseIdx_cons_succ, List.eraseIdx_zero, List.tail_cons])) | (refine FEnt.at 2 rfl ?_; (try simp only [List.eraseIdx_cons_zero, List.eraseIdx_cons_succ, List.eraseIdx_zero, List.tail_cons])) | (refine FEnt.at 4 rfl ?_; (try simp only [List.eraseIdx_cons_zero, List.eraseIdx_cons_succ, List.eraseIdx_zero, List.tail_cons])) | (refine FEnt.at 5 rfl ?_; (try simp only [List.eraseIdx_cons_zero, List.eraseIdx_cons_succ, List.eraseIdx_zero, List.tail_cons])) | (refine FEnt.at 8 rfl ?_; (try simp only [List.eraseIdx_cons_zero, List.eraseIdx_cons_succ, List.eraseIdx_zero, List.tail_cons])) | refine FEnt.drop ?_)); done), ⟨by omega, g2, ⟨?_, hc5, had5⟩, ⟨?_, hc6, had6⟩, ⟨?_, hc7, had7⟩⟩, by omega⟩
          · show ws ++ _ = winT xs (k + 1)
            unfold winT
            rw [range_snoc, w1]
            unfold winT
            rw [List.cons_append, Int.add_comm (sumB pF xs k), Int.add_comm (sumB pF xs (k + 1))]
          · show ss ++ _ = sloT xs (k + 1)
            unfold sloT
            rw [range_snoc, s1, ← hq0, ← hq1]
            rfl
          · show cs ++ _ = cliT xs (k + 1)
            unfold cliT
            rw [range_snoc, c1, Int.add_comm (sumB zF xs k)]
            rfl
        · have e : k = xs.length := by omega
          subst e
          subst w1 s1 c1 g2
          conv => whnf
          repeat' (first
            | ((with_reducible refine Br.df ?_ ?_); (focus (first | assumption | omega)); conv => whnf)
            | ((with_reducible refine Nd.mk ?_ ?_); (focus (first | omega | rfl | assumption | (simp; done))); conv => whnf)
            | (first | (refine LdN.at 0 rfl (by first | exact Nat.le_of_ble_eq_true rfl | (simp; done)) ?_; conv => whnf) | (refine LdN.at 4 rfl (by first | exact Nat.le_of_ble_eq_true rfl | (simp; done)) ?_; conv => whnf))
            | (refine St.at 4 rfl (by first | exact Nat.le_of_ble_eq_true rfl | (simp; done)) rfl ?_; conv => whnf))
          all_goals exact Exs.of (((wa, wc), (sa, sc), (ca, cc)) : (Option Addr × Nat) × (Option Addr × Nat) × (Option Addr × Nat)) (by (try dsimp only); (refine FEnt.ent ?_; (repeat (first | exact FEnt.rfl | (refine FEnt.at 1 rfl ?_; (try simp only [List.eraseIdx_cons_zero, List.eraseIdx_cons_succ, List.eraseIdx_zero, List.tail_cons])) | refine FEnt.drop ?_)); done)) ⟨⟨w2, w3⟩, ⟨s2, s3⟩, ⟨c2, c3⟩⟩ rfl
end Go.Proofs
