/- The document's parser of images: contracts. -/
import Derived.Test.YtdjpcfaidgofoaaGreatTopP
set_option linter.all false
namespace Go.Proofs
open Go.Eng
open Classical
set_option linter.unusedVariables false
set_option maxRecDepth 100000
set_option maxHeartbeats 4000000
theorem Tryz.at1 (u : ByteArray) (x : Int) (j : Nat) (L : List HP) (hx : x = j) (hj : j + 1 ≤ u.size) (hu : u.size ≤ 1000000) : Con Tryz.prog 17 [.string u, .int .i64 x, .int .i64 1] L (Is (i64W (oneA u j)) L) := by
  subst hx
  unfold oneA
  refine con_of Tryz.tysOk Tryz.func17 rfl rfl ?_
  conv => whnf
  repeat' (first
    | ((with_reducible refine Br.df ?_ ?_); (focus (first | assumption | omega)); conv => whnf)
    | (first | ((with_reducible refine Ar.i64b ?_); conv => whnf) | ((with_reducible refine Ar.i64 ?_ ?_); (focus omega); conv => whnf))
    | ((with_reducible refine SIx.nat ?_ ?_); (focus (omega)); conv => whnf))
  all_goals first | (exfalso; omega) | (refine Is.ent ?_ ?_; (focus (exact Ent.rfl)); (exact Is.rfl))
theorem Tryz.at2 (u : ByteArray) (x : Int) (j : Nat) (L : List HP) (hx : x = j) (hj : j + 2 ≤ u.size) (hu : u.size ≤ 1000000) : Con Tryz.prog 17 [.string u, .int .i64 x, .int .i64 2] L (Is (i64W (twoA u j)) L) := by
  subst hx
  unfold twoA
  have h1 := u8_lt (sAt u j)
  have h2 := u8_lt (sAt u (j + 1))
  have e1 : ((j : Int) + 1).toNat = j + 1 := by omega
  have h3 := u8_lt (sAt u ((j : Int) + 1).toNat)
  refine con_of Tryz.tysOk Tryz.func17 rfl rfl ?_
  conv => whnf
  repeat' (first
    | (first | ((with_reducible refine Br.dt ?_ ?_); (focus (first | assumption | omega)); conv => whnf) | ((with_reducible refine Br.df ?_ ?_); (focus (first | assumption | omega)); conv => whnf))
    | (first | ((with_reducible refine Ar.i64b ?_); conv => whnf) | ((with_reducible refine Ar.i64 ?_ ?_); (focus omega); conv => whnf))
    | ((with_reducible refine SIx.nat ?_ ?_); (focus (omega)); conv => whnf)
    | ((with_reducible refine SIx.mk' ?_ ?_); (focus (omega)); conv => whnf))
  all_goals first | (exfalso; omega) | (refine Is.ent ?_ ?_; (focus (exact Ent.rfl)); (exact Is.rfl)) | (rw [e1]; (refine Is.ent ?_ ?_; (focus fail); fail)) | (refine Is.int ?_; rw [e1])
theorem winsA_snoc (u : ByteArray) : ∀ (k i : Nat), winsA u (k + 1) i = winsA u k i ++ [winA u (i + 5 * k)]
  | 0, i => rfl
  | k + 1, i => by
    rw [winsA, winsA_snoc u k (i + 5), winsA, List.cons_append, show i + 5 + 5 * k = i + 5 * (k + 1) by omega]
theorem clisA_snoc (u : ByteArray) : ∀ (k i : Nat), clisA u (k + 1) i = clisA u k i ++ [cliA u (i + 14 * k)]
  | 0, i => rfl
  | k + 1, i => by
    rw [clisA, clisA_snoc u k (i + 14), clisA, List.cons_append, show i + 14 + 14 * k = i + 14 * (k + 1) by omega]
theorem winsA_len (u : ByteArray) : ∀ (k i : Nat), (winsA u k i).length = k
  | 0, i => rfl
  | k + 1, i => by rw [winsA, List.length_cons, winsA_len u k]
theorem clisA_len (u : ByteArray) : ∀ (k i : Nat), (clisA u k i).length = k
  | 0, i => rfl
  | k + 1, i => by rw [clisA, List.length_cons, clisA_len u k]
abbrev zC : List Value := [n64 0, .slice none 0 0, .slice none 0 0, .slice none 0 0]
theorem Tryz.refParse16 (s u : ByteArray) (L : List HP) (hs0 : s.size ≤ 1000000) (h2 : 2 ≤ s.size) (hz : u.size = s.size - 2) (e2 : s.extract 0 (Int.toNat ((s.size : Int) - 2)) = u) (hse : ∀ L, Con Tryz.prog 5 [.string u] L (Is (.string s) L)) :
    Con Tryz.prog 6 [.string s] L (Exs (fun y : Cfg => .tuple #[cfV y, i64W (prsE u)]) (fun y => own slE 43 y.wa y.wc y.ws :: own slE 44 y.sa y.sc y.ss :: own clE 46 y.ca y.cc y.xs :: L)
      (fun y => (prsE u = 0 → y.F = twoA u 2 ∧ y.ws = (tbA u).1 ∧ y.ss = (tbA u).2.1 ∧ y.xs = (tbA u).2.2.1) ∧ (y.ws.length ≤ y.wc ∧ Ad y.wa y.ws.length) ∧ (y.ss.length ≤ y.sc ∧ Ad y.sa y.ss.length) ∧ (y.xs.length ≤ y.cc ∧ Ad y.ca y.xs.length))) := by
  have NO : ∀ e : Int, e ≠ 0 → (e = 0 → (⟨0, none, 0, [], none, 0, [], none, 0, []⟩ : Cfg).F = twoA u 2 ∧ ([] : List Slt) = (tbA u).1 ∧ ([] : List Slt) = (tbA u).2.1 ∧ ([] : List Cli) = (tbA u).2.2.1) ∧ (([] : List Slt).length ≤ 0 ∧ Ad none ([] : List Slt).length) ∧ (([] : List Slt).length ≤ 0 ∧ Ad none ([] : List Slt).length) ∧ (([] : List Cli).length ≤ 0 ∧ Ad none ([] : List Cli).length) := fun e he => ⟨fun h => absurd h he, ⟨Nat.le_refl 0, fun h => absurd rfl h⟩, ⟨Nat.le_refl 0, fun h => absurd rfl h⟩, ⟨Nat.le_refl 0, fun h => absurd rfl h⟩⟩
  by_cases hv : 2 ≤ u.size ∧ ¬ u.extract 0 2 = ⟨#[67, 1]⟩
  · have ep : prsE u = 3 := if_pos hv
    rw [ep]
    obtain ⟨v1, v2⟩ := hv
    have v2 : ¬ u.extract 0 (Int.toNat 2) = ⟨#[67, 1]⟩ := v2
    refine con_of Tryz.tysOk Tryz.func6 rfl rfl ?_
    conv => whnf
    repeat' (first
      | (first | ((with_reducible refine Br.tt ?_); conv => whnf) | ((with_reducible refine Br.dt ?_ ?_); (focus (first | assumption | omega)); conv => whnf) | ((with_reducible refine Br.df ?_ ?_); (focus (first | assumption | omega)); conv => whnf) | ((with_reducible refine Br.ndt ?_ ?_); (focus (first | assumption | omega)); conv => whnf) | ((with_reducible refine Br.no ?_ ?_); (focus (first | (simp; done) | (simp; omega))); conv => whnf))
      | ((with_reducible refine Ar.i64 ?_ ?_); (focus omega); conv => whnf)
      | ((with_reducible refine Nd.mk ?_ ?_); (focus (first | omega | rfl | assumption | (simp; done))); conv => whnf)
      | ((with_reducible refine Nc.go' (fun _ => ?_)); conv => whnf)
      | ((with_reducible refine SubS.pre ?_ ?_); (focus (omega)); conv => whnf)
      | (refine LdN.at 0 rfl (by first | exact Nat.le_of_ble_eq_true rfl | (simp; done)) ?_; conv => whnf)
      | (refine St.at 0 rfl (by first | exact Nat.le_of_ble_eq_true rfl | (simp; done)) rfl ?_; conv => whnf)
      | ((with_reducible refine Cl.is (hse _) ?_); conv => whnf)
      | ((rw [e2]); conv => whnf))
    all_goals first | (exfalso; omega) | exact Exs.of (⟨0, none, 0, [], none, 0, [], none, 0, []⟩ : Cfg) (by (try dsimp only); (refine FEnt.ent ?_; (repeat (first | exact FEnt.rfl | refine FEnt.nil ?_ | refine FEnt.drop ?_)); done)) (NO 3 (by decide)) rfl
  · by_cases h5 : u.size < 5
    · have ep : prsE u = 5 := by unfold prsE; rw [if_neg hv, if_pos (fun h => by have := h.1; omega)]
      rw [ep]
      have hv2 : u.size < 2 ∨ (2 ≤ u.size ∧ u.extract 0 (Int.toNat 2) = ⟨#[67, 1]⟩) := by
        by_cases hh : u.size < 2
        · exact .inl hh
        · exact .inr ⟨by omega, Classical.byContradiction fun hc => hv ⟨by omega, hc⟩⟩
      clear hv
      rcases hv2 with v1 | ⟨v1, v2⟩
      · refine con_of Tryz.tysOk Tryz.func6 rfl rfl ?_
        conv => whnf
        repeat' (first
          | (first | ((with_reducible refine Br.ff ?_); conv => whnf) | ((with_reducible refine Br.dt ?_ ?_); (focus (first | assumption | omega)); conv => whnf) | ((with_reducible refine Br.df ?_ ?_); (focus (first | assumption | omega)); conv => whnf) | ((with_reducible refine Br.no ?_ ?_); (focus (first | (simp; done) | (simp; omega))); conv => whnf))
          | ((with_reducible refine Ar.i64 ?_ ?_); (focus omega); conv => whnf)
          | ((with_reducible refine Nd.mk ?_ ?_); (focus (first | omega | rfl | assumption | (simp; done))); conv => whnf)
          | ((with_reducible refine Nc.go' (fun _ => ?_)); conv => whnf)
          | ((with_reducible refine SubS.pre ?_ ?_); (focus (omega)); conv => whnf)
          | (refine LdN.at 0 rfl (by first | exact Nat.le_of_ble_eq_true rfl | (simp; done)) ?_; conv => whnf)
          | (refine St.at 0 rfl (by first | exact Nat.le_of_ble_eq_true rfl | (simp; done)) rfl ?_; conv => whnf)
          | ((with_reducible refine Cl.is (hse _) ?_); conv => whnf)
          | ((rw [e2]); conv => whnf))
        all_goals first | (exfalso; omega) | exact Exs.of (⟨0, none, 0, [], none, 0, [], none, 0, []⟩ : Cfg) (by (try dsimp only); (refine FEnt.ent ?_; (repeat (first | exact FEnt.rfl | refine FEnt.nil ?_ | refine FEnt.drop ?_)); done)) (NO 5 (by decide)) rfl
      · refine con_of Tryz.tysOk Tryz.func6 rfl rfl ?_
        conv => whnf
        repeat' (first
          | (first | ((with_reducible refine Br.tt ?_); conv => whnf) | ((with_reducible refine Br.dt ?_ ?_); (focus (first | assumption | omega)); conv => whnf) | ((with_reducible refine Br.df ?_ ?_); (focus (first | assumption | omega)); conv => whnf) | ((with_reducible refine Br.ndf ?_ ?_); (focus (first | assumption | omega)); conv => whnf) | ((with_reducible refine Br.no ?_ ?_); (focus (first | (simp; done) | (simp; omega))); conv => whnf))
          | ((with_reducible refine Ar.i64 ?_ ?_); (focus omega); conv => whnf)
          | ((with_reducible refine Nd.mk ?_ ?_); (focus (first | omega | rfl | assumption | (simp; done))); conv => whnf)
          | ((with_reducible refine Nc.go' (fun _ => ?_)); conv => whnf)
          | ((with_reducible refine SubS.pre ?_ ?_); (focus (omega)); conv => whnf)
          | (refine LdN.at 0 rfl (by first | exact Nat.le_of_ble_eq_true rfl | (simp; done)) ?_; conv => whnf)
          | (refine St.at 0 rfl (by first | exact Nat.le_of_ble_eq_true rfl | (simp; done)) rfl ?_; conv => whnf)
          | ((with_reducible refine Cl.is (hse _) ?_); conv => whnf)
          | ((rw [e2]); conv => whnf))
        all_goals first | (exfalso; omega) | exact Exs.of (⟨0, none, 0, [], none, 0, [], none, 0, []⟩ : Cfg) (by (try dsimp only); (refine FEnt.ent ?_; (repeat (first | exact FEnt.rfl | refine FEnt.nil ?_ | refine FEnt.drop ?_)); done)) (NO 5 (by decide)) rfl
    · skip
      have hv2 : u.extract 0 (Int.toNat 2) = ⟨#[67, 1]⟩ := Classical.byContradiction fun hc => hv ⟨by omega, hc⟩
      have ep : prsE u = if ¬ fits u then 5 else if 7 + 5 * l1 u + 5 * l2 u + 14 * l3 u < u.size then 3 else 0 := by unfold prsE; rw [if_neg hv]
      have hF := fun L => Tryz.at2 u 2 2 L rfl (by omega) (by omega)
      have hN := fun L => Tryz.at1 u 4 4 L rfl (by omega) (by omega)
      have hl1 : oneA u 4 = ((l1 u : Nat) : Int) := rfl
      have hb1 : l1 u ≤ 255 := by have := u8_lt (sAt u 4); unfold l1; omega
      have hT1 : (tbA u).1 = winsA u (l1 u) 5 := rfl
      have hT2 : (tbA u).2.1 = winsA u (l2 u) (6 + 5 * l1 u) := rfl
      have hT3 : (tbA u).2.2.1 = clisA u (l3 u) (7 + 5 * l1 u + 5 * l2 u) := rfl
      have hfi : fits u ↔ (6 + 5 * l1 u ≤ u.size ∧ 7 + 5 * l1 u + 5 * l2 u ≤ u.size ∧ 7 + 5 * l1 u + 5 * l2 u + 14 * l3 u ≤ u.size) := ⟨fun h => h.2, fun h => ⟨by omega, h⟩⟩
      rw [hl1] at hN
      refine con_of Tryz.tysOk Tryz.func6 rfl rfl ?_
      conv => whnf
      repeat' (first
        | (first | ((with_reducible refine Br.tt ?_); conv => whnf) | ((with_reducible refine Br.dt ?_ ?_); (focus (first | assumption | omega)); conv => whnf) | ((with_reducible refine Br.df ?_ ?_); (focus (first | assumption | omega)); conv => whnf) | ((with_reducible refine Br.ndf ?_ ?_); (focus (first | assumption | omega)); conv => whnf) | ((with_reducible refine Br.no ?_ ?_); (focus (first | (simp; done) | (simp; omega))); conv => whnf))
        | ((with_reducible refine Ar.i64 ?_ ?_); (focus omega); conv => whnf)
        | ((with_reducible refine Nd.mk ?_ ?_); (focus (first | omega | rfl | assumption | (simp; done))); conv => whnf)
        | ((with_reducible refine Nc.go' (fun _ => ?_)); conv => whnf)
        | ((with_reducible refine SubS.pre ?_ ?_); (focus (omega)); conv => whnf)
        | (refine St.at 0 rfl (by first | exact Nat.le_of_ble_eq_true rfl | (simp; done)) rfl ?_; conv => whnf)
        | (first | ((with_reducible refine Cl.is (hse _) ?_); conv => whnf) | ((with_reducible refine Cl.is (hF _) ?_); conv => whnf) | ((with_reducible refine Cl.is (hN _) ?_); conv => whnf))
        | ((rw [e2]); conv => whnf))
      all_goals try (exfalso; omega)
      rename_i b2 b5
      conv => whnf
      refine Lp.by4 Tryz.tysOk [7, 6] (fun (n : Int) (i : Int) (k : Nat) (P : Option Addr × Nat × List Slt) => [.int .i64 n, .int .i64 i]) (fun n i k P => ptc b5 28 [n64 (twoA u 2), .slice P.1 P.2.2.length P.2.1, .slice none 0 0, .slice none 0 0] :: own slE 43 P.1 P.2.1 P.2.2 :: ptc b2 28 zC :: L) (fun n i k P => (n = (l1 u : Int) - k ∧ i = 5 + 5 * k ∧ k ≤ l1 u ∧ 5 + 5 * k ≤ u.size) ∧ P.2.2 = winsA u k 5 ∧ (P.2.2.length ≤ P.2.1 ∧ Ad P.1 P.2.2.length)) (fun n i k P => l1 u - k) ((l1 u : Int)) (5) (0) (((none, 0, []) : Option Addr × Nat × List Slt)) (by kernel_rfl) (by (refine FEnt.ent ?_; (repeat (first | exact FEnt.rfl | (refine FEnt.at 0 rfl ?_; (try simp only [List.eraseIdx_cons_zero, List.eraseIdx_cons_succ, List.eraseIdx_zero, List.tail_cons])) | refine FEnt.nil ?_)); done)) (⟨⟨by omega, by omega, by omega, by omega⟩, rfl, ⟨Nat.le_refl _, fun h => absurd rfl h⟩⟩) ?_
      rintro n i k ⟨wa, wc, W⟩ ⟨⟨g1, g2, g3, g4⟩, g5, ⟨g6, g7⟩⟩
      conv => whnf
      repeat (intro _; conv => whnf)
      dsimp only at g5 g6 g7
      have hwl : W.length = k := by rw [g5, winsA_len]
      by_cases hn : 0 < n
      · by_cases hz5 : (u.size : Int) - i < 5
        · have hE : prsE u = 5 := by rw [ep, if_pos (fun h => by have := (hfi.1 h).1; omega)]
          rw [hE]
          clear g5
          conv => whnf
          repeat' (first
            | ((with_reducible refine Br.dt ?_ ?_); (focus (first | assumption | omega)); conv => whnf)
            | ((with_reducible refine Ar.i64 ?_ ?_); (focus omega); conv => whnf)
            | ((with_reducible refine Nd.mk ?_ ?_); (focus (first | omega | rfl | assumption | (simp; done))); conv => whnf)
            | (refine LdN.at 2 rfl (by first | exact Nat.le_of_ble_eq_true rfl | (simp; done)) ?_; conv => whnf)
            | (refine St.at 2 rfl (by first | exact Nat.le_of_ble_eq_true rfl | (simp; done)) rfl ?_; conv => whnf))
          all_goals first | (exfalso; omega) | exact Exs.of (⟨0, none, 0, [], none, 0, [], none, 0, []⟩ : Cfg) (by (try dsimp only); (refine FEnt.ent ?_; (repeat (first | exact FEnt.rfl | refine FEnt.nil ?_ | refine FEnt.drop ?_)); done)) (NO 5 (by decide)) rfl
        · have q0 := fun L => Tryz.at1 u i (5 + 5 * k) L (by omega) (by omega) (by omega)
          have q1 := fun L => Tryz.at2 u (i + 1) (5 + 5 * k + 1) L (by omega) (by omega) (by omega)
          have q2 := fun L => Tryz.at2 u (i + 3) (5 + 5 * k + 3) L (by omega) (by omega) (by omega)
          have hst := winsA_snoc u k 5
          rw [← g5, show winA u (5 + 5 * k) = (oneA u (5 + 5 * k), twoA u (5 + 5 * k + 1), twoA u (5 + 5 * k + 3)) from rfl] at hst
          clear g5 ep hfi
          generalize oneA u (5 + 5 * k) = v0 at *
          generalize twoA u (5 + 5 * k + 1) = v1 at *
          generalize twoA u (5 + 5 * k + 3) = v2 at *
          conv => whnf
          repeat' (first
            | (first | ((with_reducible refine Br.dt ?_ ?_); (focus (first | assumption | omega)); conv => whnf) | ((with_reducible refine Br.df ?_ ?_); (focus (first | assumption | omega)); conv => whnf))
            | ((with_reducible refine Ar.i64 ?_ ?_); (focus omega); conv => whnf)
            | ((with_reducible refine Nd.mk ?_ ?_); (focus (first | omega | rfl | assumption | (simp; done))); conv => whnf)
            | ((with_reducible refine Nc.go' (fun _ => ?_)); conv => whnf)
            | (refine Ld.at 0 rfl rfl ?_; conv => whnf)
            | (refine St.at 2 rfl (by first | exact Nat.le_of_ble_eq_true rfl | (simp; done)) rfl ?_; conv => whnf)
            | ((with_reducible refine Dr.by (id := 17) Tryz.tysOk rfl [(0, 0), (2, 0), (3, 0), (5, 0), (6, 0), (7, 0), (9, 0), (10, 0), (11, 0), (1, 1), (4, 1), (8, 1), (12, 1), (13, 0), (14, 2), (15, 3), (16, 0), (17, 3)] ?_ ?_); (focus kernel_rfl); conv => whnf)
            | (first | ((with_reducible refine CD.is (fun M => q0 _) ?_); conv => whnf) | ((with_reducible refine CD.is (fun M => q1 _) ?_); conv => whnf) | ((with_reducible refine CD.is (fun M => q2 _) ?_); conv => whnf))
            | ((with_reducible refine (?_ : Sm _ (Builtin.append_ _ _ _) _ _)); (((with_reducible apply (Sm.appAt (E := slE) (et := 43) Tryz.tysOk 2)); (focus rfl)); (rotate_left; (focus (exact Rd.ptc 0 rfl [(_, _, _)] rfl)); rotate_right; (focus rfl)); (focus rfl); (focus rfl); (focus rfl); (focus rfl); (focus rfl); (focus rfl); (focus ((simp only [List.length_append, List.length_cons, List.length_nil]); omega)); (intro _ _ _ _); conv => whnf)))
          all_goals try (exfalso; omega)
          all_goals (rename_i a9 c9 hc9 had9; exact ⟨n - 1, i + 5, k + 1, (a9, c9, W ++ [(v0, v1, v2)]), by kernel_rfl, by (try dsimp only); (refine FEnt.ent ?_; (repeat (first | exact FEnt.rfl | (refine FEnt.at 0 rfl ?_; (try simp only [List.eraseIdx_cons_zero, List.eraseIdx_cons_succ, List.eraseIdx_zero, List.tail_cons])) | (refine FEnt.at 1 rfl ?_; (try simp only [List.eraseIdx_cons_zero, List.eraseIdx_cons_succ, List.eraseIdx_zero, List.tail_cons])) | (refine FEnt.at 2 rfl ?_; (try simp only [List.eraseIdx_cons_zero, List.eraseIdx_cons_succ, List.eraseIdx_zero, List.tail_cons])) | refine FEnt.drop ?_)); done), ⟨⟨by omega, by omega, by omega, by omega⟩, hst.symm, ⟨hc9, had9⟩⟩, by omega⟩)
      · have ek : k = l1 u := by omega
        subst g1
        rw [ek] at g5 g2 g4
        by_cases hz1 : (u.size : Int) - i < 1
        · have hE : prsE u = 5 := by rw [ep, if_pos (fun h => by have := (hfi.1 h).1; omega)]
          rw [hE]
          clear g5
          conv => whnf
          repeat' (first
            | (first | ((with_reducible refine Br.dt ?_ ?_); (focus (first | assumption | omega)); conv => whnf) | ((with_reducible refine Br.df ?_ ?_); (focus (first | assumption | omega)); conv => whnf))
            | ((with_reducible refine Ar.i64 ?_ ?_); (focus omega); conv => whnf)
            | ((with_reducible refine Nd.mk ?_ ?_); (focus (first | omega | rfl | assumption | (simp; done))); conv => whnf)
            | (refine LdN.at 2 rfl (by first | exact Nat.le_of_ble_eq_true rfl | (simp; done)) ?_; conv => whnf)
            | (refine St.at 2 rfl (by first | exact Nat.le_of_ble_eq_true rfl | (simp; done)) rfl ?_; conv => whnf))
          all_goals first | (exfalso; omega) | exact Exs.of (⟨0, none, 0, [], none, 0, [], none, 0, []⟩ : Cfg) (by (try dsimp only); (refine FEnt.ent ?_; (repeat (first | exact FEnt.rfl | refine FEnt.nil ?_ | refine FEnt.drop ?_)); done)) (NO 5 (by decide)) rfl
        · have hN2 := fun L => Tryz.at1 u (i + 1 - 1) (5 + 5 * l1 u) L (by omega) (by omega) (by omega)
          have hl2 : oneA u (5 + 5 * l1 u) = ((l2 u : Nat) : Int) := rfl
          have hb2 : l2 u ≤ 255 := by have := u8_lt (sAt u (5 + 5 * l1 u)); unfold l2; omega
          rw [hl2] at hN2
          conv => whnf
          repeat' (first
            | ((with_reducible refine Br.df ?_ ?_); (focus (first | assumption | omega)); conv => whnf)
            | ((with_reducible refine Ar.i64 ?_ ?_); (focus omega); conv => whnf)
            | ((with_reducible refine Cl.is (hN2 _) ?_); conv => whnf))
          conv => whnf
          refine Lp.by4 Tryz.tysOk [8, 6] (fun (m : Int) (j : Int) (k2 : Nat) (P : Option Addr × Nat × List Slt) => [.int .i64 m, .int .i64 j]) (fun m j k2 P => ptc b5 28 [n64 (twoA u 2), .slice wa W.length wc, .slice P.1 P.2.2.length P.2.1, .slice none 0 0] :: own slE 43 wa wc W :: own slE 44 P.1 P.2.1 P.2.2 :: ptc b2 28 zC :: L) (fun m j k2 P => (m = (l2 u : Int) - k2 ∧ j = 6 + 5 * l1 u + 5 * k2 ∧ k2 ≤ l2 u ∧ 6 + 5 * l1 u + 5 * k2 ≤ u.size) ∧ P.2.2 = winsA u k2 (6 + 5 * l1 u) ∧ (P.2.2.length ≤ P.2.1 ∧ Ad P.1 P.2.2.length)) (fun m j k2 P => l2 u - k2) ((l2 u : Int)) (i + 1) (0) (((none, 0, []) : Option Addr × Nat × List Slt)) (by kernel_rfl) (by (refine FEnt.ent ?_; (repeat (first | exact FEnt.rfl | (refine FEnt.at 0 rfl ?_; (try simp only [List.eraseIdx_cons_zero, List.eraseIdx_cons_succ, List.eraseIdx_zero, List.tail_cons])) | refine FEnt.nil ?_)); done)) (⟨⟨by omega, by omega, by omega, by omega⟩, rfl, ⟨Nat.le_refl _, fun h => absurd rfl h⟩⟩) ?_
          rintro m j k2 ⟨sa, sc, S⟩ ⟨⟨y1, y2, y3, y4⟩, y5, ⟨y6, y7⟩⟩
          conv => whnf
          repeat (intro _; conv => whnf)
          dsimp only at y5 y6 y7
          have hsl : S.length = k2 := by rw [y5, winsA_len]
          by_cases hm : 0 < m
          · by_cases hz6 : (u.size : Int) - j < 5
            · have hE : prsE u = 5 := by rw [ep, if_pos (fun h => by have := (hfi.1 h).2.1; omega)]
              rw [hE]
              clear g5 y5
              conv => whnf
              repeat' (first
                | ((with_reducible refine Br.dt ?_ ?_); (focus (first | assumption | omega)); conv => whnf)
                | ((with_reducible refine Ar.i64 ?_ ?_); (focus omega); conv => whnf)
                | ((with_reducible refine Nd.mk ?_ ?_); (focus (first | omega | rfl | assumption | (simp; done))); conv => whnf)
                | (refine LdN.at 3 rfl (by first | exact Nat.le_of_ble_eq_true rfl | (simp; done)) ?_; conv => whnf)
                | (refine St.at 3 rfl (by first | exact Nat.le_of_ble_eq_true rfl | (simp; done)) rfl ?_; conv => whnf))
              all_goals first | (exfalso; omega) | exact Exs.of (⟨0, none, 0, [], none, 0, [], none, 0, []⟩ : Cfg) (by (try dsimp only); (refine FEnt.ent ?_; (repeat (first | exact FEnt.rfl | refine FEnt.nil ?_ | refine FEnt.drop ?_)); done)) (NO 5 (by decide)) rfl
            · have q0 := fun L => Tryz.at1 u j (6 + 5 * l1 u + 5 * k2) L (by omega) (by omega) (by omega)
              have q1 := fun L => Tryz.at2 u (j + 1) (6 + 5 * l1 u + 5 * k2 + 1) L (by omega) (by omega) (by omega)
              have q2 := fun L => Tryz.at2 u (j + 3) (6 + 5 * l1 u + 5 * k2 + 3) L (by omega) (by omega) (by omega)
              have hst := winsA_snoc u k2 (6 + 5 * l1 u)
              rw [← y5, show winA u (6 + 5 * l1 u + 5 * k2) = (oneA u (6 + 5 * l1 u + 5 * k2), twoA u (6 + 5 * l1 u + 5 * k2 + 1), twoA u (6 + 5 * l1 u + 5 * k2 + 3)) from rfl] at hst
              clear g5 y5 ep hfi
              generalize oneA u (6 + 5 * l1 u + 5 * k2) = v0 at *
              generalize twoA u (6 + 5 * l1 u + 5 * k2 + 1) = v1 at *
              generalize twoA u (6 + 5 * l1 u + 5 * k2 + 3) = v2 at *
              conv => whnf
              repeat' (first
                | (first | ((with_reducible refine Br.dt ?_ ?_); (focus (first | assumption | omega)); conv => whnf) | ((with_reducible refine Br.df ?_ ?_); (focus (first | assumption | omega)); conv => whnf))
                | ((with_reducible refine Ar.i64 ?_ ?_); (focus omega); conv => whnf)
                | ((with_reducible refine Nd.mk ?_ ?_); (focus (first | omega | rfl | assumption | (simp; done))); conv => whnf)
                | ((with_reducible refine Nc.go' (fun _ => ?_)); conv => whnf)
                | (refine Ld.at 0 rfl rfl ?_; conv => whnf)
                | (refine St.at 2 rfl (by first | exact Nat.le_of_ble_eq_true rfl | (simp; done)) rfl ?_; conv => whnf)
                | ((with_reducible refine Dr.by (id := 27) Tryz.tysOk rfl [(0, 0), (2, 0), (3, 0), (5, 0), (6, 0), (7, 0), (9, 0), (10, 0), (11, 0), (1, 1), (4, 1), (8, 1), (12, 1), (13, 0), (14, 2), (15, 3), (16, 0), (17, 3)] ?_ ?_); (focus kernel_rfl); conv => whnf)
                | (first | ((with_reducible refine CD.is (fun M => q0 _) ?_); conv => whnf) | ((with_reducible refine CD.is (fun M => q1 _) ?_); conv => whnf) | ((with_reducible refine CD.is (fun M => q2 _) ?_); conv => whnf))
                | ((with_reducible refine (?_ : Sm _ (Builtin.append_ _ _ _) _ _)); (((with_reducible apply (Sm.appAt (E := slE) (et := 44) Tryz.tysOk 3)); (focus rfl)); (rotate_left; (focus (exact Rd.ptc 0 rfl [(_, _, _)] rfl)); rotate_right; (focus rfl)); (focus rfl); (focus rfl); (focus rfl); (focus rfl); (focus rfl); (focus rfl); (focus ((simp only [List.length_append, List.length_cons, List.length_nil]); omega)); (intro _ _ _ _); conv => whnf)))
              all_goals try (exfalso; omega)
              all_goals (rename_i a9 c9 hc9 had9; exact ⟨m - 1, j + 5, k2 + 1, (a9, c9, S ++ [(v0, v1, v2)]), by kernel_rfl, by (try dsimp only); (refine FEnt.ent ?_; (repeat (first | exact FEnt.rfl | (refine FEnt.at 0 rfl ?_; (try simp only [List.eraseIdx_cons_zero, List.eraseIdx_cons_succ, List.eraseIdx_zero, List.tail_cons])) | (refine FEnt.at 1 rfl ?_; (try simp only [List.eraseIdx_cons_zero, List.eraseIdx_cons_succ, List.eraseIdx_zero, List.tail_cons])) | (refine FEnt.at 2 rfl ?_; (try simp only [List.eraseIdx_cons_zero, List.eraseIdx_cons_succ, List.eraseIdx_zero, List.tail_cons])) | refine FEnt.drop ?_)); done), ⟨⟨by omega, by omega, by omega, by omega⟩, hst.symm, ⟨hc9, had9⟩⟩, by omega⟩)
          · have ek2 : k2 = l2 u := by omega
            subst y1
            rw [ek2] at y5 y2 y4
            by_cases hz7 : (u.size : Int) - j < 1
            · have hE : prsE u = 5 := by rw [ep, if_pos (fun h => by have := (hfi.1 h).2.1; omega)]
              rw [hE]
              clear g5 y5
              conv => whnf
              repeat' (first
                | (first | ((with_reducible refine Br.dt ?_ ?_); (focus (first | assumption | omega)); conv => whnf) | ((with_reducible refine Br.df ?_ ?_); (focus (first | assumption | omega)); conv => whnf))
                | ((with_reducible refine Ar.i64 ?_ ?_); (focus omega); conv => whnf)
                | ((with_reducible refine Nd.mk ?_ ?_); (focus (first | omega | rfl | assumption | (simp; done))); conv => whnf)
                | (refine LdN.at 3 rfl (by first | exact Nat.le_of_ble_eq_true rfl | (simp; done)) ?_; conv => whnf)
                | (refine St.at 3 rfl (by first | exact Nat.le_of_ble_eq_true rfl | (simp; done)) rfl ?_; conv => whnf))
              all_goals first | (exfalso; omega) | exact Exs.of (⟨0, none, 0, [], none, 0, [], none, 0, []⟩ : Cfg) (by (try dsimp only); (refine FEnt.ent ?_; (repeat (first | exact FEnt.rfl | refine FEnt.nil ?_ | refine FEnt.drop ?_)); done)) (NO 5 (by decide)) rfl
            · have hN3 := fun L => Tryz.at1 u (j + 1 - 1) (6 + 5 * l1 u + 5 * l2 u) L (by omega) (by omega) (by omega)
              have hl3 : oneA u (6 + 5 * l1 u + 5 * l2 u) = ((l3 u : Nat) : Int) := rfl
              have hb3 : l3 u ≤ 255 := by have := u8_lt (sAt u (6 + 5 * l1 u + 5 * l2 u)); unfold l3; omega
              rw [hl3] at hN3
              conv => whnf
              repeat' (first
                | ((with_reducible refine Br.df ?_ ?_); (focus (first | assumption | omega)); conv => whnf)
                | ((with_reducible refine Ar.i64 ?_ ?_); (focus omega); conv => whnf)
                | ((with_reducible refine Cl.is (hN3 _) ?_); conv => whnf))
              conv => whnf
              refine Lp.by4 Tryz.tysOk [9, 6] (fun (p : Int) (h : Int) (k3 : Nat) (P : Option Addr × Nat × List Cli) => [.int .i64 p, .int .i64 h]) (fun p h k3 P => ptc b5 28 [n64 (twoA u 2), .slice wa W.length wc, .slice sa S.length sc, .slice P.1 P.2.2.length P.2.1] :: own slE 43 wa wc W :: own slE 44 sa sc S :: own clE 46 P.1 P.2.1 P.2.2 :: ptc b2 28 zC :: L) (fun p h k3 P => (p = (l3 u : Int) - k3 ∧ h = 7 + 5 * l1 u + 5 * l2 u + 14 * k3 ∧ k3 ≤ l3 u ∧ 7 + 5 * l1 u + 5 * l2 u + 14 * k3 ≤ u.size) ∧ P.2.2 = clisA u k3 (7 + 5 * l1 u + 5 * l2 u) ∧ (P.2.2.length ≤ P.2.1 ∧ Ad P.1 P.2.2.length)) (fun p h k3 P => l3 u - k3) ((l3 u : Int)) (j + 1) (0) (((none, 0, []) : Option Addr × Nat × List Cli)) (by kernel_rfl) (by (refine FEnt.ent ?_; (repeat (first | exact FEnt.rfl | (refine FEnt.at 0 rfl ?_; (try simp only [List.eraseIdx_cons_zero, List.eraseIdx_cons_succ, List.eraseIdx_zero, List.tail_cons])) | refine FEnt.nil ?_)); done)) (⟨⟨by omega, by omega, by omega, by omega⟩, rfl, ⟨Nat.le_refl _, fun h => absurd rfl h⟩⟩) ?_
              rintro p h k3 ⟨ca, cc, X⟩ ⟨⟨z1, z2, z3, z4⟩, z5, ⟨z6, z7⟩⟩
              conv => whnf
              repeat (intro _; conv => whnf)
              dsimp only at z5 z6 z7
              have hxl : X.length = k3 := by rw [z5, clisA_len]
              by_cases hp : 0 < p
              · by_cases hz8 : (u.size : Int) - h < 14
                · have hE : prsE u = 5 := by rw [ep, if_pos (fun h => by have := (hfi.1 h).2.2; omega)]
                  rw [hE]
                  clear g5 y5 z5
                  conv => whnf
                  repeat' (first
                    | ((with_reducible refine Br.dt ?_ ?_); (focus (first | assumption | omega)); conv => whnf)
                    | ((with_reducible refine Ar.i64 ?_ ?_); (focus omega); conv => whnf)
                    | ((with_reducible refine Nd.mk ?_ ?_); (focus (first | omega | rfl | assumption | (simp; done))); conv => whnf)
                    | (refine LdN.at 4 rfl (by first | exact Nat.le_of_ble_eq_true rfl | (simp; done)) ?_; conv => whnf)
                    | (refine St.at 4 rfl (by first | exact Nat.le_of_ble_eq_true rfl | (simp; done)) rfl ?_; conv => whnf))
                  all_goals first | (exfalso; omega) | exact Exs.of (⟨0, none, 0, [], none, 0, [], none, 0, []⟩ : Cfg) (by (try dsimp only); (refine FEnt.ent ?_; (repeat (first | exact FEnt.rfl | refine FEnt.nil ?_ | refine FEnt.drop ?_)); done)) (NO 5 (by decide)) rfl
                · skip
                  have q0 := fun L => Tryz.at2 u h (7 + 5 * l1 u + 5 * l2 u + 14 * k3) L (by omega) (by omega) (by omega)
                  have q1 := fun L => Tryz.at2 u (h + 2) (7 + 5 * l1 u + 5 * l2 u + 14 * k3 + 2) L (by omega) (by omega) (by omega)
                  have q2 := fun L => Tryz.at1 u (h + 4) (7 + 5 * l1 u + 5 * l2 u + 14 * k3 + 4) L (by omega) (by omega) (by omega)
                  have q3 := fun L => Tryz.at2 u (h + 5) (7 + 5 * l1 u + 5 * l2 u + 14 * k3 + 5) L (by omega) (by omega) (by omega)
                  have q4 := fun L => Tryz.at1 u (h + 7) (7 + 5 * l1 u + 5 * l2 u + 14 * k3 + 7) L (by omega) (by omega) (by omega)
                  have q5 := fun L => Tryz.at1 u (h + 8) (7 + 5 * l1 u + 5 * l2 u + 14 * k3 + 8) L (by omega) (by omega) (by omega)
                  have q6 := fun L => Tryz.at1 u (h + 9) (7 + 5 * l1 u + 5 * l2 u + 14 * k3 + 9) L (by omega) (by omega) (by omega)
                  have q7 := fun L => Tryz.at1 u (h + 10) (7 + 5 * l1 u + 5 * l2 u + 14 * k3 + 10) L (by omega) (by omega) (by omega)
                  have q8 := fun L => Tryz.at2 u (h + 11) (7 + 5 * l1 u + 5 * l2 u + 14 * k3 + 11) L (by omega) (by omega) (by omega)
                  have q9 := fun L => Tryz.at1 u (h + 13) (7 + 5 * l1 u + 5 * l2 u + 14 * k3 + 13) L (by omega) (by omega) (by omega)
                  have hst := clisA_snoc u k3 (7 + 5 * l1 u + 5 * l2 u)
                  rw [← z5, show cliA u (7 + 5 * l1 u + 5 * l2 u + 14 * k3) = (⟨twoA u (7 + 5 * l1 u + 5 * l2 u + 14 * k3), twoA u (7 + 5 * l1 u + 5 * l2 u + 14 * k3 + 2), oneA u (7 + 5 * l1 u + 5 * l2 u + 14 * k3 + 4), twoA u (7 + 5 * l1 u + 5 * l2 u + 14 * k3 + 5), oneA u (7 + 5 * l1 u + 5 * l2 u + 14 * k3 + 7), oneA u (7 + 5 * l1 u + 5 * l2 u + 14 * k3 + 8), oneA u (7 + 5 * l1 u + 5 * l2 u + 14 * k3 + 9), oneA u (7 + 5 * l1 u + 5 * l2 u + 14 * k3 + 10), twoA u (7 + 5 * l1 u + 5 * l2 u + 14 * k3 + 11), oneA u (7 + 5 * l1 u + 5 * l2 u + 14 * k3 + 13)⟩ : Cli) from rfl] at hst
                  clear g5 y5 z5 ep hfi
                  generalize twoA u (7 + 5 * l1 u + 5 * l2 u + 14 * k3) = v0 at *
                  generalize twoA u (7 + 5 * l1 u + 5 * l2 u + 14 * k3 + 2) = v1 at *
                  generalize oneA u (7 + 5 * l1 u + 5 * l2 u + 14 * k3 + 4) = v2 at *
                  generalize twoA u (7 + 5 * l1 u + 5 * l2 u + 14 * k3 + 5) = v3 at *
                  generalize oneA u (7 + 5 * l1 u + 5 * l2 u + 14 * k3 + 7) = v4 at *
                  generalize oneA u (7 + 5 * l1 u + 5 * l2 u + 14 * k3 + 8) = v5 at *
                  generalize oneA u (7 + 5 * l1 u + 5 * l2 u + 14 * k3 + 9) = v6 at *
                  generalize oneA u (7 + 5 * l1 u + 5 * l2 u + 14 * k3 + 10) = v7 at *
                  generalize twoA u (7 + 5 * l1 u + 5 * l2 u + 14 * k3 + 11) = v8 at *
                  generalize oneA u (7 + 5 * l1 u + 5 * l2 u + 14 * k3 + 13) = v9 at *
                  conv => whnf
                  repeat' (first
                    | (first | ((with_reducible refine Br.dt ?_ ?_); (focus (first | assumption | omega)); conv => whnf) | ((with_reducible refine Br.df ?_ ?_); (focus (first | assumption | omega)); conv => whnf))
                    | ((with_reducible refine Ar.i64 ?_ ?_); (focus omega); conv => whnf)
                    | ((with_reducible refine Nd.mk ?_ ?_); (focus (first | omega | rfl | assumption | (simp; done))); conv => whnf)
                    | ((with_reducible refine Nc.go' (fun _ => ?_)); conv => whnf)
                    | (refine Ld.at 0 rfl rfl ?_; conv => whnf)
                    | (refine St.at 2 rfl (by first | exact Nat.le_of_ble_eq_true rfl | (simp; done)) rfl ?_; conv => whnf)
                    | ((with_reducible refine Dr.by (id := 37) Tryz.tysOk rfl [(0, 0), (2, 0), (3, 0), (5, 0), (6, 0), (7, 0), (9, 0), (10, 0), (11, 0), (13, 0), (14, 0), (15, 0), (17, 0), (18, 0), (19, 0), (21, 0), (22, 0), (23, 0), (25, 0), (26, 0), (27, 0), (29, 0), (30, 0), (31, 0), (33, 0), (34, 0), (35, 0), (37, 0), (38, 0), (39, 0), (1, 1), (4, 1), (8, 1), (12, 1), (16, 1), (20, 1), (24, 1), (28, 1), (32, 1), (36, 1), (40, 1), (41, 0), (42, 2), (43, 3), (44, 0), (45, 3)] ?_ ?_); (focus kernel_rfl); conv => whnf)
                    | (first | ((with_reducible refine CD.is (fun M => q0 _) ?_); conv => whnf) | ((with_reducible refine CD.is (fun M => q1 _) ?_); conv => whnf) | ((with_reducible refine CD.is (fun M => q2 _) ?_); conv => whnf) | ((with_reducible refine CD.is (fun M => q3 _) ?_); conv => whnf) | ((with_reducible refine CD.is (fun M => q4 _) ?_); conv => whnf) | ((with_reducible refine CD.is (fun M => q5 _) ?_); conv => whnf) | ((with_reducible refine CD.is (fun M => q6 _) ?_); conv => whnf) | ((with_reducible refine CD.is (fun M => q7 _) ?_); conv => whnf) | ((with_reducible refine CD.is (fun M => q8 _) ?_); conv => whnf) | ((with_reducible refine CD.is (fun M => q9 _) ?_); conv => whnf))
                    | ((with_reducible refine (?_ : Sm _ (Builtin.append_ _ _ _) _ _)); (((with_reducible apply (Sm.appAt (E := clE) (et := 46) Tryz.tysOk 4)); (focus rfl)); (rotate_left; (focus (exact Rd.ptc 0 rfl [⟨_, _, _, _, _, _, _, _, _, _⟩] rfl)); rotate_right; (focus rfl)); (focus rfl); (focus rfl); (focus rfl); (focus rfl); (focus rfl); (focus rfl); (focus ((simp only [List.length_append, List.length_cons, List.length_nil]); omega)); (intro _ _ _ _); conv => whnf)))
                  all_goals try (exfalso; omega)
                  all_goals (rename_i a9 c9 hc9 had9; exact ⟨p - 1, h + 14, k3 + 1, (a9, c9, X ++ [(⟨v0, v1, v2, v3, v4, v5, v6, v7, v8, v9⟩ : Cli)]), by kernel_rfl, by (try dsimp only); (refine FEnt.ent ?_; (repeat (first | exact FEnt.rfl | (refine FEnt.at 0 rfl ?_; (try simp only [List.eraseIdx_cons_zero, List.eraseIdx_cons_succ, List.eraseIdx_zero, List.tail_cons])) | (refine FEnt.at 1 rfl ?_; (try simp only [List.eraseIdx_cons_zero, List.eraseIdx_cons_succ, List.eraseIdx_zero, List.tail_cons])) | (refine FEnt.at 2 rfl ?_; (try simp only [List.eraseIdx_cons_zero, List.eraseIdx_cons_succ, List.eraseIdx_zero, List.tail_cons])) | refine FEnt.drop ?_)); done), ⟨⟨by omega, by omega, by omega, by omega⟩, hst.symm, ⟨hc9, had9⟩⟩, by omega⟩)
              · have ek3 : k3 = l3 u := by omega
                subst z1
                rw [ek3] at z5 z2 z4
                have hff : fits u := hfi.2 ⟨by omega, by omega, by omega⟩
                rw [if_neg (fun h => h hff)] at ep
                by_cases hr : 7 + 5 * l1 u + 5 * l2 u + 14 * l3 u < u.size
                · rw [if_pos hr] at ep
                  rw [ep]
                  clear g5 y5 z5 hff hfi
                  conv => whnf
                  repeat' (first
                    | (first | ((with_reducible refine Br.dt ?_ ?_); (focus (first | assumption | omega)); conv => whnf) | ((with_reducible refine Br.df ?_ ?_); (focus (first | assumption | omega)); conv => whnf))
                    | ((with_reducible refine Nd.mk ?_ ?_); (focus (first | omega | rfl | assumption | (simp; done))); conv => whnf)
                    | (refine LdN.at 4 rfl (by first | exact Nat.le_of_ble_eq_true rfl | (simp; done)) ?_; conv => whnf)
                    | (refine St.at 4 rfl (by first | exact Nat.le_of_ble_eq_true rfl | (simp; done)) rfl ?_; conv => whnf))
                  all_goals first | (exfalso; omega) | exact Exs.of (⟨0, none, 0, [], none, 0, [], none, 0, []⟩ : Cfg) (by (try dsimp only); (refine FEnt.ent ?_; (repeat (first | exact FEnt.rfl | refine FEnt.nil ?_ | refine FEnt.drop ?_)); done)) (NO 3 (by decide)) rfl
                · rw [if_neg hr] at ep
                  rw [ep]
                  clear hff hfi
                  conv => whnf
                  repeat' (first
                    | ((with_reducible refine Br.df ?_ ?_); (focus (first | assumption | omega)); conv => whnf)
                    | ((with_reducible refine Nd.mk ?_ ?_); (focus (first | omega | rfl | assumption | (simp; done))); conv => whnf)
                    | (first | (refine LdN.at 0 rfl (by first | exact Nat.le_of_ble_eq_true rfl | (simp; done)) ?_; conv => whnf) | (refine LdN.at 4 rfl (by first | exact Nat.le_of_ble_eq_true rfl | (simp; done)) ?_; conv => whnf))
                    | (refine St.at 4 rfl (by first | exact Nat.le_of_ble_eq_true rfl | (simp; done)) rfl ?_; conv => whnf))
                  all_goals first | (exfalso; omega) | exact Exs.of (⟨twoA u 2, wa, wc, W, sa, sc, S, ca, cc, X⟩ : Cfg) (by (try dsimp only); (refine FEnt.ent ?_; (repeat (first | exact FEnt.rfl | (refine FEnt.at 1 rfl ?_; (try simp only [List.eraseIdx_cons_zero, List.eraseIdx_cons_succ, List.eraseIdx_zero, List.tail_cons])) | refine FEnt.drop ?_)); done)) ⟨fun _ => ⟨rfl, g5, y5, z5⟩, ⟨g6, g7⟩, ⟨y6, y7⟩, ⟨z6, z7⟩⟩ rfl
end Go.Proofs
