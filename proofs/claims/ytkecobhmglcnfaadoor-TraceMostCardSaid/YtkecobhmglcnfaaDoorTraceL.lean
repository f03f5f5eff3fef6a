/- The document's reader of a line, and both readers of a text: contracts. -/
import Derived.Test.YtkecobhmglcnfaaDoorTraceK
set_option linter.all false
namespace Go.Proofs
open Go.Eng
open Classical
set_option linter.unusedVariables false
set_option maxRecDepth 100000
set_option maxHeartbeats 4000000
theorem wds_len (s : ByteArray) : (wds s.data.toList).length ≤ s.size + 1 := by
  have hl := size_list s
  have := (spl_len 32 s.data.toList).2.2
  simp only [wds, splL, List.length_map, List.length_cons]
  omega
theorem Tryd.refReadW (s : ByteArray) (ws : List ByteArray) (m0 m2 m3 m4 so : Int) (d6 J : ByteArray) (bm : Bool) (L : List HP)
    (hsp : ∀ L, Con Tryd.prog 43 [.string s, z8 32] L (New strE 9 ws L)) (h6 : ws.length = 6)
    (n0 : ∀ L, Con Tryd.prog 59 [.string (ws.getD (Int.toNat 0) strE.d)] L (Is (z64 m0) L)) (n2 : ∀ L, Con Tryd.prog 59 [.string (ws.getD (Int.toNat 2) strE.d)] L (Is (z64 m2) L))
    (n3 : ∀ L, Con Tryd.prog 59 [.string (ws.getD (Int.toNat 3) strE.d)] L (Is (z64 m3) L)) (n4 : ∀ L, Con Tryd.prog 59 [.string (ws.getD (Int.toNat 4) strE.d)] L (Is (z64 m4) L))
    (d5 : ∀ L, Con Tryd.prog 60 [.string (ws.getD (Int.toNat 5) strE.d)] L (Is (.string d6) L)) (hso : 0 ≤ so ∧ so ≤ 9)
    (hsi : ∀ k : Nat, 1 ≤ k → k ≤ 9 → (nameF k = ws.getD (Int.toNat 1) strE.d ↔ so = (k : Int)))
    (hmy : ∀ L, Con Tryd.prog 19 [mrV ⟨m0, so, m2, m3, m4, d6⟩] L (Is (.bool bm) L))
    (hln : bm = true → ∀ L, Con Tryd.prog 24 [mrV ⟨m0, so, m2, m3, m4, d6⟩] L (Is (.string J) L)) :
    Con Tryd.prog 44 [.string s] L (Is (.tuple #[mrV ⟨m0, so, m2, m3, m4, d6⟩, .bool (bm && decide (J = s))]) L) := by
  have q9 : ((u8of so).toNat : Int) = so := by rw [u8of_int]; omega
  refine con_of Tryd.tysOk Tryd.func44 rfl rfl ?_
  conv => whnf
  repeat' (first
    | ((with_reducible refine Br.ndf ?_ ?_); (focus (first | assumption | omega)); conv => whnf)
    | ((with_reducible refine Nc.go' (fun _ => ?_)); conv => whnf)
    | ((with_reducible refine Cl.new (hsp _) (fun _ _ _ _ => ?_)); conv => whnf))
  rename_i b2 aw cw hcw hdw
  conv => whnf
  refine Lp.by2 Tryd.tysOk [6, 5] (fun (k : Nat) (n : Int) => [.int .i64 k, .int .i64 n]) (fun k n => ptc b2 29 [z64 0, z8 0, z64 0, z64 0, z64 0, .string .empty] :: own strE 9 aw cw ws :: L) (fun k n => (1 ≤ k ∧ k ≤ 10) ∧ n = (if so < (k : Int) then so else 0)) (fun k n => 10 - k) (1) (0) (by kernel_rfl) (by (refine FEnt.ent ?_; (repeat (first | exact FEnt.rfl | (refine FEnt.at 1 rfl ?_; (try simp only [List.eraseIdx_cons_zero, List.eraseIdx_cons_succ, List.eraseIdx_zero, List.tail_cons])))); done)) (⟨by omega, by split <;> omega⟩) ?_
  rintro k n ⟨q1, q2⟩
  conv => whnf
  repeat (intro _; conv => whnf)
  by_cases hk : k < 10
  · have hnk := fun L => Tryd.refName33 (k : Int) L (by omega)
    have hik := hsi k (by omega) (by omega)
    by_cases he : so = (k : Int)
    · have f1 := hik.2 he
      rw [if_neg (by omega)] at q2
      clear hsi hik hln hmy
      conv => whnf
      repeat' (first
        | ((with_reducible refine Br.dt ?_ ?_); (focus (first | assumption | omega)); conv => whnf)
        | ((with_reducible refine Ar.i64 ?_ ?_); (focus omega); conv => whnf)
        | ((with_reducible refine Ix.ad ?_ ?_ ?_); (focus (assumption)); (focus (omega)); conv => whnf)
        | ((apply Ld.rd0); (focus ((repeat ((refine Rd.own 1 rfl ?_); (assumption))); done)); (focus rfl); (focus (omega)); (focus rfl); conv => whnf)
        | ((with_reducible refine Dr.by (id := 8) Tryd.tysOk rfl [(0, 0), (2, 0), (3, 0), (1, 1), (4, 1), (5, 0)] ?_ ?_); (focus kernel_rfl); conv => whnf)
        | ((with_reducible refine CD.is (fun M => hnk _) ?_); conv => whnf))
      all_goals first | exact ⟨k + 1, (k : Int), by kernel_rfl, by (exact Ent.rfl), ⟨by omega, by rw [if_pos (by omega)]; omega⟩, by omega⟩ | (exfalso; omega)
    · have f1 : ¬ nameF (k : Int) = ws.getD (Int.toNat 1) strE.d := fun h => he (hik.1 h)
      have q3 : n = (if so < ((k + 1 : Nat) : Int) then so else 0) := by
        rw [q2]
        by_cases h : so < (k : Int)
        · rw [if_pos h, if_pos (by omega)]
        · rw [if_neg h, if_neg (by omega)]
      clear hsi hik hln hmy q2
      conv => whnf
      repeat' (first
        | (first | ((with_reducible refine Br.dt ?_ ?_); (focus (first | assumption | omega)); conv => whnf) | ((with_reducible refine Br.df ?_ ?_); (focus (first | assumption | omega)); conv => whnf))
        | ((with_reducible refine Ar.i64 ?_ ?_); (focus omega); conv => whnf)
        | ((with_reducible refine Ix.ad ?_ ?_ ?_); (focus (assumption)); (focus (omega)); conv => whnf)
        | ((apply Ld.rd0); (focus ((repeat ((refine Rd.own 1 rfl ?_); (assumption))); done)); (focus rfl); (focus (omega)); (focus rfl); conv => whnf)
        | ((with_reducible refine Dr.by (id := 8) Tryd.tysOk rfl [(0, 0), (2, 0), (3, 0), (1, 1), (4, 1), (5, 0)] ?_ ?_); (focus kernel_rfl); conv => whnf)
        | ((with_reducible refine CD.is (fun M => hnk _) ?_); conv => whnf))
      all_goals first | exact ⟨k + 1, n, by kernel_rfl, by (exact Ent.rfl), ⟨by omega, q3⟩, by omega⟩ | (exfalso; omega)
  · obtain rfl : k = 10 := by omega
    rw [if_pos (by omega)] at q2
    subst q2
    clear hsi
    cases bm with
    | true =>
      have hln := hln rfl
      rw [Bool.true_and]
      conv => whnf
      repeat' (first
        | (first | ((with_reducible refine Br.tt ?_); conv => whnf) | ((with_reducible refine Br.df ?_ ?_); (focus (first | assumption | omega)); conv => whnf))
        | ((with_reducible refine Ar.u8b ?_); conv => whnf)
        | ((with_reducible refine Nd.mk ?_ ?_); (focus (first | omega | rfl | assumption | (simp; done))); conv => whnf)
        | ((with_reducible refine Nc.go' (fun _ => ?_)); conv => whnf)
        | ((with_reducible refine Ix.ad ?_ ?_ ?_); (focus (assumption)); (focus (omega)); conv => whnf)
        | ((apply Ld.rd0); (focus ((repeat ((refine Rd.own 1 rfl ?_); (assumption))); done)); (focus rfl); (focus (omega)); (focus rfl); conv => whnf)
        | (first | (refine LdN.at 0 rfl (by first | exact Nat.le_of_ble_eq_true rfl | (simp; done)) ?_; conv => whnf) | (refine LdN.at 1 rfl (by first | exact Nat.le_of_ble_eq_true rfl | (simp; done)) ?_; conv => whnf))
        | (first | (refine St.at 0 rfl (by first | exact Nat.le_of_ble_eq_true rfl | (simp; done)) rfl ?_; conv => whnf) | (refine St.at 1 rfl (by first | exact Nat.le_of_ble_eq_true rfl | (simp; done)) rfl ?_; conv => whnf))
        | ((with_reducible refine Dr.by (id := 10) Tryd.tysOk rfl [(0, 0), (1, 0), (4, 0), (5, 0), (6, 0), (7, 0), (10, 0), (11, 0), (14, 0), (15, 0), (18, 0), (19, 0), (2, 1), (3, 1), (8, 1), (9, 1), (12, 1), (13, 1), (16, 1), (17, 1), (20, 1), (21, 1), (22, 0), (23, 2), (24, 3)] ?_ ?_); (focus kernel_rfl); conv => whnf)
        | ((with_reducible refine Dr.by (id := 11) Tryd.tysOk rfl [(0, 1), (1, 1), (2, 1), (3, 0), (6, 0), (4, 1), (5, 1), (7, 0), (8, 0), (9, 3), (10, 0)] ?_ ?_); (focus kernel_rfl); conv => whnf)
        | (first | ((with_reducible refine CD.is (fun M => n0 _) ?_); conv => whnf) | ((with_reducible refine CD.is (fun M => n2 _) ?_); conv => whnf) | ((with_reducible refine CD.is (fun M => n3 _) ?_); conv => whnf) | ((with_reducible refine CD.is (fun M => n4 _) ?_); conv => whnf) | ((with_reducible refine CD.is (fun M => d5 _) ?_); conv => whnf) | ((with_reducible refine CD.is (fun M => hmy _) ?_); conv => whnf) | ((with_reducible refine CD.is (fun M => hln _) ?_); conv => whnf))
        | ((rw [q9]); conv => whnf))
      all_goals first | (refine Is.ent ?_ ?_; (focus (refine FEnt.ent ?_; (repeat (first | exact FEnt.rfl | refine FEnt.drop ?_)); done)); (exact Is.rfl)) | (exfalso; omega)
    | false =>
      rw [Bool.false_and]
      clear hln
      conv => whnf
      repeat' (first
        | (first | ((with_reducible refine Br.ff ?_); conv => whnf) | ((with_reducible refine Br.df ?_ ?_); (focus (first | assumption | omega)); conv => whnf))
        | ((with_reducible refine Ar.u8b ?_); conv => whnf)
        | ((with_reducible refine Nd.mk ?_ ?_); (focus (first | omega | rfl | assumption | (simp; done))); conv => whnf)
        | ((with_reducible refine Nc.go' (fun _ => ?_)); conv => whnf)
        | ((with_reducible refine Ix.ad ?_ ?_ ?_); (focus (assumption)); (focus (omega)); conv => whnf)
        | ((apply Ld.rd0); (focus ((repeat ((refine Rd.own 1 rfl ?_); (assumption))); done)); (focus rfl); (focus (omega)); (focus rfl); conv => whnf)
        | (first | (refine LdN.at 0 rfl (by first | exact Nat.le_of_ble_eq_true rfl | (simp; done)) ?_; conv => whnf) | (refine LdN.at 1 rfl (by first | exact Nat.le_of_ble_eq_true rfl | (simp; done)) ?_; conv => whnf))
        | (first | (refine St.at 0 rfl (by first | exact Nat.le_of_ble_eq_true rfl | (simp; done)) rfl ?_; conv => whnf) | (refine St.at 1 rfl (by first | exact Nat.le_of_ble_eq_true rfl | (simp; done)) rfl ?_; conv => whnf))
        | ((with_reducible refine Dr.by (id := 10) Tryd.tysOk rfl [(0, 0), (1, 0), (4, 0), (5, 0), (6, 0), (7, 0), (10, 0), (11, 0), (14, 0), (15, 0), (18, 0), (19, 0), (2, 1), (3, 1), (8, 1), (9, 1), (12, 1), (13, 1), (16, 1), (17, 1), (20, 1), (21, 1), (22, 0), (23, 2), (24, 3)] ?_ ?_); (focus kernel_rfl); conv => whnf)
        | ((with_reducible refine Dr.by (id := 11) Tryd.tysOk rfl [(0, 1), (1, 1), (2, 1), (3, 0), (6, 0), (4, 1), (5, 1), (7, 0), (8, 0), (9, 3), (10, 0)] ?_ ?_); (focus kernel_rfl); conv => whnf)
        | (first | ((with_reducible refine CD.is (fun M => n0 _) ?_); conv => whnf) | ((with_reducible refine CD.is (fun M => n2 _) ?_); conv => whnf) | ((with_reducible refine CD.is (fun M => n3 _) ?_); conv => whnf) | ((with_reducible refine CD.is (fun M => n4 _) ?_); conv => whnf) | ((with_reducible refine CD.is (fun M => d5 _) ?_); conv => whnf) | ((with_reducible refine CD.is (fun M => hmy _) ?_); conv => whnf))
        | ((rw [q9]); conv => whnf))
      all_goals first | (refine Is.ent ?_ ?_; (focus (refine FEnt.ent ?_; (repeat (first | exact FEnt.rfl | refine FEnt.drop ?_)); done)); (exact Is.rfl)) | (exfalso; omega)
theorem Tryd.refRead33 (s : ByteArray) (L : List HP) (hs : s.size ≤ 1000000) :
    Con Tryd.prog 44 [.string s] L (Is (.tuple #[mrV (rfV s.data.toList), .bool (decide (rdOk s.data.toList))]) L) := by
  have hsp : ∀ L, Con Tryd.prog 43 [.string s, z8 32] L (New strE 9 (wds s.data.toList) L) := fun L => Tryd.refSplit 32 s L (by omega)
  have hl := size_list s
  have hwl := wds_len s
  by_cases h6 : (wds s.data.toList).length = 6
  · have w0 := wd_len s.data.toList 0
    have w2 := wd_len s.data.toList 2
    have w3 := wd_len s.data.toList 3
    have w4 := wd_len s.data.toList 4
    have w5 := wd_len s.data.toList 5
    have e1 : rfV s.data.toList = rfM s.data.toList := if_pos h6
    have ej : bsL (joinF (rfM s.data.toList)) = s ↔ joinF (rfM s.data.toList) = s.data.toList := ⟨fun h => (congrArg (fun x : ByteArray => x.data.toList) h), fun h => str_ext h⟩
    have e2 : decide (rdOk s.data.toList) = (decide (MayM (rfM s.data.toList)) && decide (bsL (joinF (rfM s.data.toList)) = s)) := by
      rw [← Bool.decide_and]
      exact decide_eq_decide.2 ((rf_iff h6).trans ⟨fun h => ⟨h.1, ej.2 h.2⟩, fun h => ⟨h.1, ej.1 h.2⟩⟩)
    rw [e1, e2]
    refine Tryd.refReadW s (wds s.data.toList) _ _ _ _ _ _ _ _ L hsp h6 (fun L => Tryd.refNumber (wd s.data.toList 0) L (by omega)) (fun L => Tryd.refNumber (wd s.data.toList 2) L (by omega)) (fun L => Tryd.refNumber (wd s.data.toList 3) L (by omega)) (fun L => Tryd.refNumber (wd s.data.toList 4) L (by omega)) (fun L => Tryd.refData (wd s.data.toList 5) L (by omega)) (sortF_P (wd s.data.toList 1)) (fun k h1 h2 => sort_iff (x := wd s.data.toList 1) (by omega)) (fun L => Tryd.refMay33 (rfM s.data.toList) L (rfM_B _)) (fun hM L => Tryd.refLine33 (rfM s.data.toList) L (of_decide_eq_true hM) (rfM_B _) (by have := rdat_len (wd s.data.toList 5); show (rdatF _).size ≤ _; omega))
  · have hno : ¬ rdOk s.data.toList := fun h => h6 h.1
    have hz : rfV s.data.toList = ⟨0, 0, 0, 0, 0, ⟨#[]⟩⟩ := if_neg h6
    rw [decide_eq_false hno, hz]
    clear hno hz
    generalize wds s.data.toList = ws at *
    refine con_of Tryd.tysOk Tryd.func44 rfl rfl ?_
    conv => whnf
    repeat' (first
      | ((with_reducible refine Br.ndt ?_ ?_); (focus (first | assumption | omega)); conv => whnf)
      | ((with_reducible refine Nd.mk ?_ ?_); (focus (first | omega | rfl | assumption | (simp; done))); conv => whnf)
      | ((with_reducible refine Nc.go' (fun _ => ?_)); conv => whnf)
      | (refine LdN.at 1 rfl (by first | exact Nat.le_of_ble_eq_true rfl | (simp; done)) ?_; conv => whnf)
      | (refine St.at 1 rfl (by first | exact Nat.le_of_ble_eq_true rfl | (simp; done)) rfl ?_; conv => whnf)
      | ((with_reducible refine Cl.new (hsp _) (fun _ _ _ _ => ?_)); conv => whnf))
    all_goals first | (refine Is.ent ?_ ?_; (focus (refine FEnt.ent ?_; (repeat (first | exact FEnt.rfl | refine FEnt.drop ?_)); done)); (exact Is.rfl)) | (exfalso; omega)
/-! a text's marks -/
abbrev PrsP (xs : List Mrk) (n e : Int) (L : List HP) := Exs (fun y : Option Addr × Nat => .tuple #[.slice y.1 xs.length y.2, z64 n, z64 e]) (fun y => own mrE 29 y.1 y.2 xs :: L) (fun y => xs.length ≤ y.2 ∧ Ad y.1 xs.length)
theorem PrsP.nil {L L' : List HP} {n e : Int} (h : Ent L' L) : PrsP [] n e L (.tuple #[.slice none 0 0, z64 n, z64 e]) L' :=
  Exs.of ((none, 0) : Option Addr × Nat) (fun w s => Ent.nil w (h w s)) ⟨by simp, fun h => absurd rfl h⟩ rfl
theorem prs_end {acc : List Mrk} {l : List UInt8} : prsA acc l [] = if l = [] then (acc, 0, 0) else ([], (acc.length : Int) + 1, 3) := rfl
theorem prs_more {acc : List Mrk} {l l2 : List UInt8} {r : List (List UInt8)} : prsA acc l (l2 :: r) = if rdOk l then (if acc.length = 4096 then ([], (acc.length : Int) + 1, 4) else prsA (acc ++ [rdM l]) l2 r) else ([], (acc.length : Int) + 1, 3) := rfl
/-- one round of trace.Parse: what is cut, what it answers -/
inductive Rnd (u : ByteArray) (ys : List Mrk) (xs : List Mrk) (n e : Int) : ByteArray → ByteArray → Bool → Prop where
  | last (h : u = ⟨#[]⟩) (hx : xs = ys) (hn : n = 0) (he : e = 0) : Rnd u ys xs n e u ⟨#[]⟩ false
  | tail (h : ¬ u = ⟨#[]⟩) (hx : xs = []) (hn : n = (ys.length : Int) + 1) (he : e = 3) : Rnd u ys xs n e u ⟨#[]⟩ false
  | bad (l r : ByteArray) (hl : l.size ≤ u.size) (h : ¬ rdOk l.data.toList) (hx : xs = []) (hn : n = (ys.length : Int) + 1) (he : e = 3) : Rnd u ys xs n e l r true
  | full (l r : ByteArray) (hl : l.size ≤ u.size) (h : rdOk l.data.toList) (hy : ys.length = 4096) (hx : xs = []) (hn : n = (ys.length : Int) + 1) (he : e = 4) : Rnd u ys xs n e l r true
  | on (l r : ByteArray) (hl : l.size ≤ u.size) (hr : r.size < u.size) (h : rdOk l.data.toList) (hy : ys.length ≠ 4096) (hk : prsA (ys ++ [rdM l.data.toList]) (spl 10 r.data.toList).1 (spl 10 r.data.toList).2 = (xs, n, e)) : Rnd u ys xs n e l r true
theorem rnd_of {u : ByteArray} {ys xs : List Mrk} {n e : Int} (h : prsA ys (spl 10 u.data.toList).1 (spl 10 u.data.toList).2 = (xs, n, e)) :
    ∃ l r b, Lib.cut u.data.toList [10] = (l.data.toList, r.data.toList, b) ∧ Rnd u ys xs n e l r b := by
  have hl := size_list u
  rcases cut_spl 10 u.data.toList with ⟨c1, c2, c3⟩ | ⟨r, c1, c2, c3⟩
  · refine ⟨u, ⟨#[]⟩, false, c3, ?_⟩
    rw [c1, c2, prs_end] at h
    by_cases h0 : u.data.toList = []
    · rw [if_pos h0] at h
      simp only [Prod.mk.injEq] at h
      exact .last (str_ext h0) h.1.symm h.2.1.symm h.2.2.symm
    · rw [if_neg h0] at h
      simp only [Prod.mk.injEq] at h
      exact .tail (fun e => h0 (by rw [e])) h.1.symm h.2.1.symm h.2.2.symm
  · have hlen := (spl_len 10 u.data.toList).1
    refine ⟨bsL (spl 10 u.data.toList).1, bsL r, true, c1, ?_⟩
    rw [c2, prs_more] at h
    by_cases hk : rdOk (spl 10 u.data.toList).1
    · rw [if_pos hk] at h
      by_cases h4 : ys.length = 4096
      · rw [if_pos h4] at h
        simp only [Prod.mk.injEq] at h
        exact .full _ _ (by rw [bsL_size]; omega) hk h4 h.1.symm h.2.1.symm h.2.2.symm
      · rw [if_neg h4] at h
        exact .on _ _ (by rw [bsL_size]; omega) (by rw [bsL_size]; omega) hk h4 h
    · rw [if_neg hk] at h
      simp only [Prod.mk.injEq] at h
      exact .bad _ _ (by rw [bsL_size]; omega) hk h.1.symm h.2.1.symm h.2.2.symm
theorem Tryd.trcParse (s : ByteArray) (xs : List Mrk) (n e : Int) (L : List HP) (hs : s.size ≤ 1000000) (hM : Tryd.Mx L) (hR : prsF s.data.toList = (xs, n, e)) :
    Con Tryd.prog 22 [.string s] L (PrsP xs n e L) := by
  refine con_of Tryd.tysOk Tryd.func22 rfl rfl ?_
  conv => whnf
  refine Sc.by5 Tryd.tysOk 0 rfl [0, 5, 6] (fun (u : ByteArray) (P : Option Addr × Nat × List Mrk) (ln : Int) (_ _ : Unit) => [.string u, .slice P.1 P.2.2.length P.2.1, .int .i64 ln]) (fun u P ln _ _ => own mrE 29 P.1 P.2.1 P.2.2 :: L) (fun u P ln _ _ => (u.size ≤ 1000000 ∧ ln = (P.2.2.length : Int) ∧ P.2.2.length ≤ 4096) ∧ prsA P.2.2 (spl 10 u.data.toList).1 (spl 10 u.data.toList).2 = (xs, n, e) ∧ P.2.2.length ≤ P.2.1 ∧ Ad P.1 P.2.2.length) (fun u P ln _ _ => u.size) ?_ ?_
  · skip
    obtain ⟨l, r, b, hc, hrn⟩ := rnd_of (ys := []) hR
    have hcut := fun L h => Tryd.cutS s ⟨#[10]⟩ L (by omega) h
    change ∀ L, Tryd.Mx L → Con Tryd.prog 41 [.string s, .string ⟨#[10]⟩] L (Is (.tuple #[.string ⟨(Lib.cut s.data.toList [10]).1.toArray⟩, .string ⟨(Lib.cut s.data.toList [10]).2.1.toArray⟩, .bool (Lib.cut s.data.toList [10]).2.2]) L) at hcut
    rw [hc] at hcut
    change ∀ L, Tryd.Mx L → Con Tryd.prog 41 [.string s, .string ⟨#[10]⟩] L (Is (.tuple #[.string l, .string r, .bool b]) L) at hcut
    clear hc hR
    cases hrn with
    | last h hx hn he =>
      subst hx hn he
      conv => whnf
      repeat' (first
        | (first | ((with_reducible refine Br.nf ?_); conv => whnf) | ((with_reducible refine Br.ndf ?_ ?_); (focus (first | assumption | omega)); conv => whnf))
        | ((with_reducible refine Ar.i64 ?_ ?_); (focus omega); conv => whnf)
        | ((with_reducible refine Nd.mk ?_ ?_); (focus (first | omega | rfl | assumption | (simp; done))); conv => whnf)
        | ((with_reducible refine Cl.is (hcut _ (by ((repeat (first | assumption | apply Tryd.mxCons | apply Tryd.mxApp)); done))) ?_); conv => whnf))
      all_goals first | exact PrsP.nil (by (exact Ent.rfl)) | (exfalso; omega)
    | tail h hx hn he =>
      subst hx hn he
      conv => whnf
      repeat' (first
        | (first | ((with_reducible refine Br.nf ?_); conv => whnf) | ((with_reducible refine Br.ndt ?_ ?_); (focus (first | assumption | omega)); conv => whnf))
        | ((with_reducible refine Ar.i64 ?_ ?_); (focus omega); conv => whnf)
        | ((with_reducible refine Nd.mk ?_ ?_); (focus (first | omega | rfl | assumption | (simp; done))); conv => whnf)
        | ((with_reducible refine Cl.is (hcut _ (by ((repeat (first | assumption | apply Tryd.mxCons | apply Tryd.mxApp)); done))) ?_); conv => whnf))
      all_goals first | exact PrsP.nil (by (exact Ent.rfl)) | (exfalso; omega)
    | bad _ _ hl h hx hn he =>
      subst hx hn he
      have hrd := fun L hM => Tryd.trcReadAny l L (by omega) hM
      rw [decide_eq_false h] at hrd
      conv => whnf
      repeat' (first
        | (first | ((with_reducible refine Br.nt ?_); conv => whnf) | ((with_reducible refine Br.nf ?_); conv => whnf))
        | ((with_reducible refine Ar.i64 ?_ ?_); (focus omega); conv => whnf)
        | ((with_reducible refine Nd.mk ?_ ?_); (focus (first | omega | rfl | assumption | (simp; done))); conv => whnf)
        | ((with_reducible refine Nc.go' (fun _ => ?_)); conv => whnf)
        | (refine St.at 0 rfl (by first | exact Nat.le_of_ble_eq_true rfl | (simp; done)) rfl ?_; conv => whnf)
        | (first | ((with_reducible refine Cl.is (hcut _ (by ((repeat (first | assumption | apply Tryd.mxCons | apply Tryd.mxApp)); done))) ?_); conv => whnf) | ((with_reducible refine Cl.is (hrd _ (by ((repeat (first | assumption | apply Tryd.mxCons | apply Tryd.mxApp)); done))) ?_); conv => whnf)))
      all_goals first | exact PrsP.nil (by (refine FEnt.ent ?_; (repeat (first | exact FEnt.rfl | refine FEnt.drop ?_)); done)) | (exfalso; omega)
    | full _ _ hl h hy hx hn he => exact absurd hy (by decide)
    | on _ _ hl hr h hy hk =>
      have hrd := fun L hM => Tryd.trcReadAny l L (by omega) hM
      rw [decide_eq_true h] at hrd
      rw [rdV_ok h] at hrd
      conv => whnf
      repeat' (first
        | (first | ((with_reducible refine Br.nt ?_); conv => whnf) | ((with_reducible refine Br.df ?_ ?_); (focus (first | assumption | omega)); conv => whnf))
        | ((with_reducible refine Ar.i64 ?_ ?_); (focus omega); conv => whnf)
        | ((with_reducible refine Nd.mk ?_ ?_); (focus (first | omega | rfl | assumption | (simp; done))); conv => whnf)
        | ((with_reducible refine Nc.go' (fun _ => ?_)); conv => whnf)
        | (refine LdN.at 0 rfl (by first | exact Nat.le_of_ble_eq_true rfl | (simp; done)) ?_; conv => whnf)
        | (refine St.at 0 rfl (by first | exact Nat.le_of_ble_eq_true rfl | (simp; done)) rfl ?_; conv => whnf)
        | (first | ((with_reducible refine Cl.is (hcut _ (by ((repeat (first | assumption | apply Tryd.mxCons | apply Tryd.mxApp)); done))) ?_); conv => whnf) | ((with_reducible refine Cl.is (hrd _ (by ((repeat (first | assumption | apply Tryd.mxCons | apply Tryd.mxApp)); done))) ?_); conv => whnf))
        | ((with_reducible refine (?_ : Sm _ (Builtin.append_ _ _ _) _ _)); ((with_reducible_and_instances apply (Sm.appNil (E := mrE) (et := 29) Tryd.tysOk)); (rotate_left; (focus (exact Rd.ptc 0 rfl [_] rfl)); rotate_right; (focus rfl)); (focus rfl); (focus rfl); (focus rfl); (focus rfl); (focus rfl); (focus ((simp only [List.length_append, List.length_cons, List.length_nil]); omega)); (intro _ _ _ _); conv => whnf)))
      all_goals try (exfalso; omega)
      all_goals (rename_i a5 c5 hc5 had5; exact Jump5.mk ⟨r, (a5, c5, ([] : List Mrk) ++ [rdM l.data.toList]), 1, (), (), by kernel_rfl, by (try dsimp only); (refine FEnt.ent ?_; (repeat (first | exact FEnt.rfl | (refine FEnt.at 0 rfl ?_; (try simp only [List.eraseIdx_cons_zero, List.eraseIdx_cons_succ, List.eraseIdx_zero, List.tail_cons])) | refine FEnt.drop ?_)); done), ⟨by omega, by rfl, by exact Nat.le_of_ble_eq_true rfl⟩, hk, hc5, had5⟩)
  · rintro u ⟨a, c, ys⟩ ln _ _ ⟨⟨g0, g1, g2⟩, g3, g4, g5⟩
    dsimp only at g1 g2 g3 g4 g5
    conv => whnf
    repeat (intro _; conv => whnf)
    obtain ⟨l, r, b, hc, hrn⟩ := rnd_of (ys := ys) g3
    have hcut := fun L h => Tryd.cutS u ⟨#[10]⟩ L (by omega) h
    change ∀ L, Tryd.Mx L → Con Tryd.prog 41 [.string u, .string ⟨#[10]⟩] L (Is (.tuple #[.string ⟨(Lib.cut u.data.toList [10]).1.toArray⟩, .string ⟨(Lib.cut u.data.toList [10]).2.1.toArray⟩, .bool (Lib.cut u.data.toList [10]).2.2]) L) at hcut
    rw [hc] at hcut
    change ∀ L, Tryd.Mx L → Con Tryd.prog 41 [.string u, .string ⟨#[10]⟩] L (Is (.tuple #[.string l, .string r, .bool b]) L) at hcut
    subst g1
    clear hc hR g3
    cases hrn with
    | last h hx hn he =>
      subst hx hn he
      conv => whnf
      repeat' (first
        | (first | ((with_reducible refine Br.nf ?_); conv => whnf) | ((with_reducible refine Br.ndf ?_ ?_); (focus (first | assumption | omega)); conv => whnf))
        | ((with_reducible refine Ar.i64 ?_ ?_); (focus omega); conv => whnf)
        | ((with_reducible refine Nd.mk ?_ ?_); (focus (first | omega | rfl | assumption | (simp; done))); conv => whnf)
        | ((with_reducible refine Cl.is (hcut _ (by ((repeat (first | assumption | apply Tryd.mxCons | apply Tryd.mxApp)); done))) ?_); conv => whnf))
      all_goals first | exact Exs.of ((a, c) : Option Addr × Nat) (by (try dsimp only); (exact Ent.rfl)) ⟨g4, g5⟩ rfl | (exfalso; omega)
    | tail h hx hn he =>
      subst hx hn he
      conv => whnf
      repeat' (first
        | (first | ((with_reducible refine Br.nf ?_); conv => whnf) | ((with_reducible refine Br.ndt ?_ ?_); (focus (first | assumption | omega)); conv => whnf))
        | ((with_reducible refine Ar.i64 ?_ ?_); (focus omega); conv => whnf)
        | ((with_reducible refine Nd.mk ?_ ?_); (focus (first | omega | rfl | assumption | (simp; done))); conv => whnf)
        | ((with_reducible refine Cl.is (hcut _ (by ((repeat (first | assumption | apply Tryd.mxCons | apply Tryd.mxApp)); done))) ?_); conv => whnf))
      all_goals first | exact PrsP.nil (by (refine FEnt.ent ?_; (repeat (first | exact FEnt.rfl | refine FEnt.drop ?_)); done)) | (exfalso; omega)
    | bad _ _ hl h hx hn he =>
      subst hx hn he
      have hrd := fun L hM => Tryd.trcReadAny l L (by omega) hM
      rw [decide_eq_false h] at hrd
      conv => whnf
      repeat' (first
        | (first | ((with_reducible refine Br.nt ?_); conv => whnf) | ((with_reducible refine Br.nf ?_); conv => whnf))
        | ((with_reducible refine Ar.i64 ?_ ?_); (focus omega); conv => whnf)
        | ((with_reducible refine Nd.mk ?_ ?_); (focus (first | omega | rfl | assumption | (simp; done))); conv => whnf)
        | ((with_reducible refine Nc.go' (fun _ => ?_)); conv => whnf)
        | (refine St.at 0 rfl (by first | exact Nat.le_of_ble_eq_true rfl | (simp; done)) rfl ?_; conv => whnf)
        | (first | ((with_reducible refine Cl.is (hcut _ (by ((repeat (first | assumption | apply Tryd.mxCons | apply Tryd.mxApp)); done))) ?_); conv => whnf) | ((with_reducible refine Cl.is (hrd _ (by ((repeat (first | assumption | apply Tryd.mxCons | apply Tryd.mxApp)); done))) ?_); conv => whnf)))
      all_goals first | exact PrsP.nil (by (refine FEnt.ent ?_; (repeat (first | exact FEnt.rfl | refine FEnt.drop ?_)); done)) | (exfalso; omega)
    | full _ _ hl h hy hx hn he =>
      subst hx hn he
      have hrd := fun L hM => Tryd.trcReadAny l L (by omega) hM
      rw [decide_eq_true h] at hrd
      conv => whnf
      repeat' (first
        | (first | ((with_reducible refine Br.nt ?_); conv => whnf) | ((with_reducible refine Br.yes ?_ ?_); (focus (first | (simp; done) | (simp; omega))); conv => whnf))
        | ((with_reducible refine Ar.i64 ?_ ?_); (focus omega); conv => whnf)
        | ((with_reducible refine Nd.mk ?_ ?_); (focus (first | omega | rfl | assumption | (simp; done))); conv => whnf)
        | ((with_reducible refine Nc.go' (fun _ => ?_)); conv => whnf)
        | (refine St.at 0 rfl (by first | exact Nat.le_of_ble_eq_true rfl | (simp; done)) rfl ?_; conv => whnf)
        | (first | ((with_reducible refine Cl.is (hcut _ (by ((repeat (first | assumption | apply Tryd.mxCons | apply Tryd.mxApp)); done))) ?_); conv => whnf) | ((with_reducible refine Cl.is (hrd _ (by ((repeat (first | assumption | apply Tryd.mxCons | apply Tryd.mxApp)); done))) ?_); conv => whnf)))
      all_goals first | exact PrsP.nil (by (refine FEnt.ent ?_; (repeat (first | exact FEnt.rfl | refine FEnt.drop ?_)); done)) | (exfalso; omega)
    | on _ _ hl hr h hy hk =>
      have hrd := fun L hM => Tryd.trcReadAny l L (by omega) hM
      rw [decide_eq_true h] at hrd
      rw [rdV_ok h] at hrd
      conv => whnf
      repeat' (first
        | (first | ((with_reducible refine Br.nt ?_); conv => whnf) | ((with_reducible refine Br.no ?_ ?_); (focus (first | (simp; done) | (simp; omega))); conv => whnf))
        | ((with_reducible refine Ar.i64 ?_ ?_); (focus omega); conv => whnf)
        | ((with_reducible refine Nd.mk ?_ ?_); (focus (first | omega | rfl | assumption | (simp; done))); conv => whnf)
        | ((with_reducible refine Nc.go' (fun _ => ?_)); conv => whnf)
        | (refine LdN.at 0 rfl (by first | exact Nat.le_of_ble_eq_true rfl | (simp; done)) ?_; conv => whnf)
        | (refine St.at 0 rfl (by first | exact Nat.le_of_ble_eq_true rfl | (simp; done)) rfl ?_; conv => whnf)
        | (first | ((with_reducible refine Cl.is (hcut _ (by ((repeat (first | assumption | apply Tryd.mxCons | apply Tryd.mxApp)); done))) ?_); conv => whnf) | ((with_reducible refine Cl.is (hrd _ (by ((repeat (first | assumption | apply Tryd.mxCons | apply Tryd.mxApp)); done))) ?_); conv => whnf))
        | ((with_reducible refine (?_ : Sm _ (Builtin.append_ _ _ _) _ _)); (((with_reducible apply (Sm.appAt (E := mrE) (et := 29) Tryd.tysOk 2)); (focus rfl)); (rotate_left; (focus (exact Rd.ptc 0 rfl [_] rfl)); rotate_right; (focus rfl)); (focus rfl); (focus rfl); (focus rfl); (focus rfl); (focus rfl); (focus rfl); (focus ((simp only [List.length_append, List.length_cons, List.length_nil]); omega)); (intro _ _ _ _); conv => whnf)))
      all_goals try (exfalso; omega)
      all_goals (rename_i a5 c5 hc5 had5; exact Again5.mk ⟨r, (a5, c5, ys ++ [rdM l.data.toList]), (ys.length : Int) + 1, (), (), by kernel_rfl, by (try dsimp only); (refine FEnt.ent ?_; (repeat (first | exact FEnt.rfl | (refine FEnt.at 0 rfl ?_; (try simp only [List.eraseIdx_cons_zero, List.eraseIdx_cons_succ, List.eraseIdx_zero, List.tail_cons])) | refine FEnt.drop ?_)); done), ⟨⟨by omega, by rw [List.length_append]; rfl, by rw [List.length_append]; simp only [List.length_cons, List.length_nil]; omega⟩, hk, hc5, had5⟩, by omega⟩)
end Go.Proofs
