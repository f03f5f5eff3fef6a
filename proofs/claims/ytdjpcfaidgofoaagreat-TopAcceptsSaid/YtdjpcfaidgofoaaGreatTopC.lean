/- An image is parsed: contracts. -/
import Derived.Test.YtdjpcfaidgofoaaGreatTopP
import Derived.Test.YtdjpcfaidgofoaaGreatTopT
set_option linter.all false
namespace Go.Proofs
open Go.Eng
open Classical
set_option linter.unusedVariables false
set_option maxRecDepth 100000
set_option maxHeartbeats 4000000
theorem Tryz.rText (b : Nat) (s : ByteArray) (t : Rst) (L : List HP) (ht : t.2 ≤ s.size) (hs : s.size ≤ 1000000) :
    Con Tryz.prog 50 [.pointer (some ⟨b, 0, none⟩), i64W 2] (ptc b 205 (rdT s t) :: L) (Is (.string (if t.1 = true ∧ t.2 + 2 ≤ s.size then s.extract t.2 (t.2 + 2) else ⟨#[]⟩)) (ptc b 205 (rdT s (nxt s 2 t)) :: L)) := by
  have hk := fun L => Tryz.rTake b s 2 t L ht hs (by omega)
  generalize (if t.1 = true ∧ t.2 + 2 ≤ s.size then s.extract t.2 (t.2 + 2) else ⟨#[]⟩) = V at *
  generalize rdT s (nxt s 2 t) = R1 at *
  generalize rdT s t = R0 at *
  refine con_of Tryz.tysOk Tryz.func50 rfl rfl ?_
  conv => whnf
  repeat' ((refine Cl.isAt 0 rfl (hk _) ?_); conv => whnf)
  all_goals first | (exfalso; omega) | (refine Is.ent ?_ ?_; (focus (exact Ent.rfl)); (exact Is.rfl))
theorem Tryz.rLeft (b : Nat) (s : ByteArray) (t : Rst) (L : List HP) (ht : t.2 ≤ s.size) (hs : s.size ≤ 1000000) :
    Con Tryz.prog 53 [.pointer (some ⟨b, 0, none⟩)] (ptc b 205 (rdT s t) :: L) (Is (i64W (if t.1 = true then (s.size : Int) - t.2 else 0)) (ptc b 205 (rdT s t) :: L)) := by
  obtain ⟨ok, k⟩ := t
  dsimp only at ht
  cases ok with
  | true =>
    change Con Tryz.prog 53 [.pointer (some ⟨b, 0, none⟩)] (ptc b 205 (rdC 0 s k) :: L) (Is (i64W ((s.size : Int) - k)) (ptc b 205 (rdC 0 s k) :: L))
    refine con_of Tryz.tysOk Tryz.func53 rfl rfl ?_
    conv => whnf
    repeat' (first
      | (first | ((with_reducible refine Br.ff ?_); conv => whnf) | ((with_reducible refine Br.sn ?_); conv => whnf) | ((with_reducible refine Br.ndf ?_ ?_); (focus (first | assumption | omega)); conv => whnf))
      | ((with_reducible refine Ar.i64 ?_ ?_); (focus omega); conv => whnf)
      | (refine Ld.at 0 rfl rfl ?_; conv => whnf)
      | ((with_reducible refine Dr.by (id := 3) Tryz.tysOk rfl [(0, 0), (1, 0), (2, 0), (5, 0), (6, 0), (7, 0), (3, 1), (4, 0), (8, 1), (9, 0), (10, 0)] ?_ ?_); (focus kernel_rfl); conv => whnf))
    all_goals first | (exfalso; omega) | (refine Is.ent ?_ ?_; (focus (exact Ent.rfl)); (exact Is.rfl))
  | false =>
    change Con Tryz.prog 53 [.pointer (some ⟨b, 0, none⟩)] (ptc b 205 (rdC 5 s k) :: L) (Is (i64W 0) (ptc b 205 (rdC 5 s k) :: L))
    refine con_of Tryz.tysOk Tryz.func53 rfl rfl ?_
    conv => whnf
    repeat' (first
      | (first | ((with_reducible refine Br.ff ?_); conv => whnf) | ((with_reducible refine Br.sn ?_); conv => whnf) | ((with_reducible refine Br.ndt ?_ ?_); (focus (first | assumption | omega)); conv => whnf))
      | (refine Ld.at 0 rfl rfl ?_; conv => whnf))
    all_goals first | (exfalso; omega) | (refine Is.ent ?_ ?_; (focus (exact Ent.rfl)); (exact Is.rfl))
theorem Tryz.crcOpen (s : ByteArray) (L : List HP) (hs : s.size ≤ 1000000) :
    Con Tryz.prog 48 [.string s] L (Is (.tuple #[.string (if s.size < 2 ∨ ¬ sealB (cutB s) = s then ⟨#[]⟩ else cutB s), i64W (if s.size < 2 then 5 else if sealB (cutB s) = s then 0 else 10)]) L) := by
  by_cases h : s.size < 2
  · rw [if_pos (.inl h), if_pos h]
    refine con_of Tryz.tysOk Tryz.func48 rfl rfl ?_
    conv => whnf
    repeat' (first
      | ((with_reducible refine Br.dt ?_ ?_); (focus (first | assumption | omega)); conv => whnf)
      | ((with_reducible refine Ar.i64 ?_ ?_); (focus omega); conv => whnf))
    all_goals first | (exfalso; omega) | (refine Is.ent ?_ ?_; (focus (exact Ent.rfl)); (exact Is.rfl))
  · have hz : (cutB s).size = s.size - 2 := by rw [ByteArray.size_extract]; omega
    have hc := fun L => Tryz.crcSeal (cutB s) L (by omega)
    have e : (s.size : Int) - 2 = ((s.size - 2 : Nat) : Int) := by omega
    have e2 : s.extract 0 (Int.toNat ((s.size : Int) - 2)) = cutB s := by rw [e]; rfl
    by_cases hq : sealB (cutB s) = s
    · rw [if_neg (fun hh => hh.elim h (fun h2 => h2 hq)), if_neg h, if_pos hq]
      rw [hq] at hc
      clear hq
      generalize hX : cutB s = X at *
      rw [← e2] at hc ⊢
      refine con_of Tryz.tysOk Tryz.func48 rfl rfl ?_
      conv => whnf
      repeat' (first
        | (first | ((with_reducible refine Br.df ?_ ?_); (focus (first | assumption | omega)); conv => whnf) | ((with_reducible refine Br.no ?_ ?_); (focus (first | (simp; done) | (simp; omega))); conv => whnf))
        | ((with_reducible refine Ar.i64 ?_ ?_); (focus omega); conv => whnf)
        | ((with_reducible refine SubS.pre ?_ ?_); (focus (omega)); conv => whnf)
        | ((with_reducible refine Cl.is (hc _) ?_); conv => whnf))
      all_goals first | (exfalso; omega) | (refine Is.ent ?_ ?_; (focus (exact Ent.rfl)); (exact Is.rfl))
    · rw [if_pos (.inr hq), if_neg h, if_neg hq]
      generalize sealB (cutB s) = Y at *
      rw [← e2] at hc
      refine con_of Tryz.tysOk Tryz.func48 rfl rfl ?_
      conv => whnf
      repeat' (first
        | (first | ((with_reducible refine Br.df ?_ ?_); (focus (first | assumption | omega)); conv => whnf) | ((with_reducible refine Br.ndt ?_ ?_); (focus (first | assumption | omega)); conv => whnf))
        | ((with_reducible refine Ar.i64 ?_ ?_); (focus omega); conv => whnf)
        | ((with_reducible refine SubS.pre ?_ ?_); (focus (omega)); conv => whnf)
        | ((with_reducible refine Cl.is (hc _) ?_); conv => whnf))
      all_goals first | (exfalso; omega) | (refine Is.ent ?_ ?_; (focus (exact Ent.rfl)); (exact Is.rfl))
abbrev zeroCfg : Value := .agg #[n64 0, .slice none 0 0, .slice none 0 0, .slice none 0 0]
/-- what a parser answers: the tables and 0, or no tables and what is wrong -/
abbrev Tryz.PrsP (s : ByteArray) (L : List HP) := Exs (fun y : Cfg => .tuple #[cfV y, i64W (imgE s)]) (fun y => own slE 43 y.wa y.wc y.ws :: own slE 44 y.sa y.sc y.ss :: own clE 46 y.ca y.cc y.xs :: L)
  (fun y => (imgE s = 0 → TbIs s y) ∧ (y.ws.length ≤ y.wc ∧ Ad y.wa y.ws.length) ∧ (y.ss.length ≤ y.sc ∧ Ad y.sa y.ss.length) ∧ (y.xs.length ≤ y.cc ∧ Ad y.ca y.xs.length))
abbrev noCfg : Cfg := ⟨0, none, 0, [], none, 0, [], none, 0, []⟩
theorem Tryz.imgParse2 (s u : ByteArray) (L : List HP) (hz : u.size ≤ 1000000) (hop : ∀ L, Con Tryz.prog 48 [.string s] L (Is (.tuple #[.string u, i64W 0]) L))
    (htb : ∀ (b : Nat) (t0 : Rst) (L : List HP), t0.2 ≤ u.size → Con Tryz.prog 52 [.pointer (some ⟨b, 0, none⟩)] (ptc b 205 (rdT u t0) :: L) (Tryz.TbP b u t0 L)) :
    Con Tryz.prog 20 [.string s] L (Exs (fun y : Cfg => .tuple #[cfV y, i64W (prsE u)]) (fun y => own slE 43 y.wa y.wc y.ws :: own slE 44 y.sa y.sc y.ss :: own clE 46 y.ca y.cc y.xs :: L)
      (fun y => (prsE u = 0 → y.F = twoA u 2 ∧ y.ws = (tbA u).1 ∧ y.ss = (tbA u).2.1 ∧ y.xs = (tbA u).2.2.1) ∧ (y.ws.length ≤ y.wc ∧ Ad y.wa y.ws.length) ∧ (y.ss.length ≤ y.sc ∧ Ad y.sa y.ss.length) ∧ (y.xs.length ≤ y.cc ∧ Ad y.ca y.xs.length))) := by
  have hnew := fun L => Tryz.rdNew u L
  have htx : ∀ b L, Con Tryz.prog 50 [.pointer (some ⟨b, 0, none⟩), i64W 2] (ptc b 205 (rdC 0 u 0) :: L) (Is (.string (if true = true ∧ 0 + 2 ≤ u.size then u.extract 0 (0 + 2) else ⟨#[]⟩)) (ptc b 205 (rdT u (nxt u 2 (true, 0))) :: L)) := fun b L => Tryz.rText b u (true, 0) L (Nat.zero_le _) hz
  have NO : ∀ e : Int, e ≠ 0 → (e = 0 → noCfg.F = twoA u 2 ∧ noCfg.ws = (tbA u).1 ∧ noCfg.ss = (tbA u).2.1 ∧ noCfg.xs = (tbA u).2.2.1) ∧ (noCfg.ws.length ≤ noCfg.wc ∧ Ad noCfg.wa noCfg.ws.length) ∧ (noCfg.ss.length ≤ noCfg.sc ∧ Ad noCfg.sa noCfg.ss.length) ∧ (noCfg.xs.length ≤ noCfg.cc ∧ Ad noCfg.ca noCfg.xs.length) := fun e he => ⟨fun h => absurd h he, ⟨Nat.le_refl 0, fun h => absurd rfl h⟩, ⟨Nat.le_refl 0, fun h => absurd rfl h⟩, ⟨Nat.le_refl 0, fun h => absurd rfl h⟩⟩
  by_cases h2 : 2 ≤ u.size
  · have en : nxt u 2 (true, 0) = (true, 2) := nxt_ok h2
    have ev : (if true = true ∧ 0 + 2 ≤ u.size then u.extract 0 (0 + 2) else (⟨#[]⟩ : ByteArray)) = u.extract 0 2 := if_pos ⟨rfl, h2⟩
    rw [en, ev] at htx
    have her := fun b L => Tryz.rErr b u (true, 2) L
    have e0 : rE (true, 2) = 0 := rfl
    rw [e0] at her
    have htb := fun b L => htb b (true, 2) L h2
    have hok := tbl_ok h2
    by_cases hv : u.extract 0 2 = ⟨#[67, 1]⟩
    · rw [hv] at htx
      have hp0 : ¬ (2 ≤ u.size ∧ ¬ u.extract 0 2 = ⟨#[67, 1]⟩) := fun h => h.2 hv
      by_cases hf : fits u
      · obtain ⟨ht, hw⟩ := hok.1 hf
        unfold Tryz.TbP at htb
        simp only [ht, hw] at htb
        have her2 := fun b L => Tryz.rErr b u (true, 7 + 5 * l1 u + 5 * l2 u + 14 * l3 u) L
        have hle := fun b L => Tryz.rLeft b u (true, 7 + 5 * l1 u + 5 * l2 u + 14 * l3 u) L hf.2.2.2 hz
        have hfe := hf.2.2.2
        have ep : prsE u = if 7 + 5 * l1 u + 5 * l2 u + 14 * l3 u < u.size then 3 else 0 := by unfold prsE; rw [if_neg hp0, if_neg (fun h => h hf)]
        simp only [ep]
        clear ep hok hp0 hf hv
        generalize 7 + 5 * l1 u + 5 * l2 u + 14 * l3 u = en at *
        have e1 : rE (true, en) = 0 := rfl
        rw [e1] at her2
        have e2 : (if (true, en).1 = true then (u.size : Int) - ((true, en) : Rst).2 else 0) = (u.size : Int) - en := rfl
        rw [e2] at hle
        by_cases hr : en < u.size
        · simp only [if_pos hr]
          refine con_of Tryz.tysOk Tryz.func20 rfl rfl ?_
          conv => whnf
          repeat' (first
            | (first | ((with_reducible refine Br.tt ?_); conv => whnf) | ((with_reducible refine Br.dt ?_ ?_); (focus (first | assumption | omega)); conv => whnf) | ((with_reducible refine Br.ndf ?_ ?_); (focus (first | assumption | omega)); conv => whnf) | ((with_reducible refine Br.no ?_ ?_); (focus (first | (simp; done) | (simp; omega))); conv => whnf))
            | ((with_reducible refine Nd.mk ?_ ?_); (focus (first | omega | rfl | assumption | (simp; done))); conv => whnf)
            | ((with_reducible refine Nc.go' (fun _ => ?_)); conv => whnf)
            | (refine LdN.at 6 rfl (by first | exact Nat.le_of_ble_eq_true rfl | (simp; done)) ?_; conv => whnf)
            | (first | (refine St.at 0 rfl (by first | exact Nat.le_of_ble_eq_true rfl | (simp; done)) rfl ?_; conv => whnf) | (refine St.at 6 rfl (by first | exact Nat.le_of_ble_eq_true rfl | (simp; done)) rfl ?_; conv => whnf))
            | (first | ((with_reducible refine Cl.is (hop _) ?_); conv => whnf) | ((with_reducible refine Cl.exs (hnew _) (fun b1 _ => ?_)); conv => whnf) | ((refine Cl.isAt 0 rfl (htx _ _) ?_); conv => whnf) | (apply (Cl.pre [ptc b1 _ _]); (focus ((repeat (first | exact FEnt.rfl | (refine FEnt.at 1 rfl ?_; (try simp only [List.eraseIdx_cons_zero, List.eraseIdx_cons_succ, List.eraseIdx_zero, List.tail_cons])) | (refine FEnt.at 4 rfl ?_; (try simp only [List.eraseIdx_cons_zero, List.eraseIdx_cons_succ, List.eraseIdx_zero, List.tail_cons])))); done)); refine Cl.exs (htb _ _) ?_; rintro ⟨F, wa, wc, W, sa, sc, S, ca, cc, X⟩ ⟨⟨q1, q2, q3, q4⟩, q5, q6, q7⟩; conv => whnf) | ((refine Cl.isAt 4 rfl (her2 _ _) ?_); conv => whnf) | ((refine Cl.isAt 4 rfl (hle _ _) ?_); conv => whnf) | ((refine Cl.isAt 0 rfl (her _ _) ?_); conv => whnf))
            | ((refine Sm.b2s (xs := [67, 1]) Tryz.tysOk rfl (Rd.ptc 0 rfl [67, 1] rfl) rfl rfl rfl rfl rfl rfl ?_); conv => whnf))
          all_goals first | (exfalso; omega) | exact Exs.of noCfg (by (try dsimp only); (refine FEnt.ent ?_; (repeat (first | exact FEnt.rfl | refine FEnt.nil ?_ | refine FEnt.drop ?_)); done)) (NO 3 (by decide)) rfl
        · simp only [if_neg hr]
          refine con_of Tryz.tysOk Tryz.func20 rfl rfl ?_
          conv => whnf
          repeat' (first
            | (first | ((with_reducible refine Br.tt ?_); conv => whnf) | ((with_reducible refine Br.dt ?_ ?_); (focus (first | assumption | omega)); conv => whnf) | ((with_reducible refine Br.df ?_ ?_); (focus (first | assumption | omega)); conv => whnf) | ((with_reducible refine Br.ndf ?_ ?_); (focus (first | assumption | omega)); conv => whnf) | ((with_reducible refine Br.no ?_ ?_); (focus (first | (simp; done) | (simp; omega))); conv => whnf))
            | ((with_reducible refine Nd.mk ?_ ?_); (focus (first | omega | rfl | assumption | (simp; done))); conv => whnf)
            | ((with_reducible refine Nc.go' (fun _ => ?_)); conv => whnf)
            | (first | (refine LdN.at 0 rfl (by first | exact Nat.le_of_ble_eq_true rfl | (simp; done)) ?_; conv => whnf) | (refine LdN.at 6 rfl (by first | exact Nat.le_of_ble_eq_true rfl | (simp; done)) ?_; conv => whnf))
            | (first | (refine St.at 0 rfl (by first | exact Nat.le_of_ble_eq_true rfl | (simp; done)) rfl ?_; conv => whnf) | (refine St.at 6 rfl (by first | exact Nat.le_of_ble_eq_true rfl | (simp; done)) rfl ?_; conv => whnf))
            | (first | ((with_reducible refine Cl.is (hop _) ?_); conv => whnf) | ((with_reducible refine Cl.exs (hnew _) (fun b1 _ => ?_)); conv => whnf) | ((refine Cl.isAt 0 rfl (htx _ _) ?_); conv => whnf) | (apply (Cl.pre [ptc b1 _ _]); (focus ((repeat (first | exact FEnt.rfl | (refine FEnt.at 1 rfl ?_; (try simp only [List.eraseIdx_cons_zero, List.eraseIdx_cons_succ, List.eraseIdx_zero, List.tail_cons])) | (refine FEnt.at 4 rfl ?_; (try simp only [List.eraseIdx_cons_zero, List.eraseIdx_cons_succ, List.eraseIdx_zero, List.tail_cons])))); done)); refine Cl.exs (htb _ _) ?_; rintro ⟨F, wa, wc, W, sa, sc, S, ca, cc, X⟩ ⟨⟨q1, q2, q3, q4⟩, q5, q6, q7⟩; conv => whnf) | ((refine Cl.isAt 4 rfl (her2 _ _) ?_); conv => whnf) | ((refine Cl.isAt 4 rfl (hle _ _) ?_); conv => whnf) | ((refine Cl.isAt 0 rfl (her _ _) ?_); conv => whnf))
            | ((refine Sm.b2s (xs := [67, 1]) Tryz.tysOk rfl (Rd.ptc 0 rfl [67, 1] rfl) rfl rfl rfl rfl rfl rfl ?_); conv => whnf))
          all_goals first | (exfalso; omega) | exact Exs.of (⟨F, wa, wc, W, sa, sc, S, ca, cc, X⟩ : Cfg) (by (try dsimp only); (refine FEnt.ent ?_; (repeat (first | exact FEnt.rfl | (refine FEnt.at 1 rfl ?_; (try simp only [List.eraseIdx_cons_zero, List.eraseIdx_cons_succ, List.eraseIdx_zero, List.tail_cons])) | refine FEnt.drop ?_)); done)) ⟨fun _ => ⟨q1, q2, q3, q4⟩, q5, q6, q7⟩ rfl
      · have hb := hok.2 hf
        have ep : prsE u = 5 := by unfold prsE; rw [if_neg hp0, if_pos hf]
        rw [ep]
        have htl : (tblF u (true, 2)).2.2.2.2 ≤ u.size ∨ True := .inr trivial
        unfold Tryz.TbP at htb
        generalize tblF u (true, 2) = T at *
        obtain ⟨TW, TS, TX, TT⟩ := T
        dsimp only at hb
        have her2 := fun b L => Tryz.rErr b u TT L
        have e1 : rE TT = 5 := by unfold rE; rw [if_neg (by rw [hb]; decide)]
        rw [e1] at her2
        clear hok hp0 hf hv ep
        refine con_of Tryz.tysOk Tryz.func20 rfl rfl ?_
        conv => whnf
        repeat' (first
          | (first | ((with_reducible refine Br.tt ?_); conv => whnf) | ((with_reducible refine Br.dt ?_ ?_); (focus (first | assumption | omega)); conv => whnf) | ((with_reducible refine Br.ndt ?_ ?_); (focus (first | assumption | omega)); conv => whnf) | ((with_reducible refine Br.ndf ?_ ?_); (focus (first | assumption | omega)); conv => whnf) | ((with_reducible refine Br.no ?_ ?_); (focus (first | (simp; done) | (simp; omega))); conv => whnf))
          | ((with_reducible refine Nd.mk ?_ ?_); (focus (first | omega | rfl | assumption | (simp; done))); conv => whnf)
          | ((with_reducible refine Nc.go' (fun _ => ?_)); conv => whnf)
          | (refine LdN.at 6 rfl (by first | exact Nat.le_of_ble_eq_true rfl | (simp; done)) ?_; conv => whnf)
          | (first | (refine St.at 0 rfl (by first | exact Nat.le_of_ble_eq_true rfl | (simp; done)) rfl ?_; conv => whnf) | (refine St.at 6 rfl (by first | exact Nat.le_of_ble_eq_true rfl | (simp; done)) rfl ?_; conv => whnf))
          | (first | ((with_reducible refine Cl.is (hop _) ?_); conv => whnf) | ((with_reducible refine Cl.exs (hnew _) (fun b1 _ => ?_)); conv => whnf) | ((refine Cl.isAt 0 rfl (htx _ _) ?_); conv => whnf) | (apply (Cl.pre [ptc b1 _ _]); (focus ((repeat (first | exact FEnt.rfl | (refine FEnt.at 1 rfl ?_; (try simp only [List.eraseIdx_cons_zero, List.eraseIdx_cons_succ, List.eraseIdx_zero, List.tail_cons])) | (refine FEnt.at 4 rfl ?_; (try simp only [List.eraseIdx_cons_zero, List.eraseIdx_cons_succ, List.eraseIdx_zero, List.tail_cons])))); done)); refine Cl.exs (htb _ _) ?_; rintro ⟨F, wa, wc, W, sa, sc, S, ca, cc, X⟩ ⟨⟨q1, q2, q3, q4⟩, q5, q6, q7⟩; conv => whnf) | ((refine Cl.isAt 4 rfl (her2 _ _) ?_); conv => whnf) | ((refine Cl.isAt 0 rfl (her _ _) ?_); conv => whnf))
          | ((refine Sm.b2s (xs := [67, 1]) Tryz.tysOk rfl (Rd.ptc 0 rfl [67, 1] rfl) rfl rfl rfl rfl rfl rfl ?_); conv => whnf))
        all_goals first | (exfalso; omega) | exact Exs.of noCfg (by (try dsimp only); (refine FEnt.ent ?_; (repeat (first | exact FEnt.rfl | refine FEnt.nil ?_ | refine FEnt.drop ?_)); done)) (NO 5 (by decide)) rfl
    · have ep : prsE u = 3 := by unfold prsE; rw [if_pos ⟨h2, hv⟩]
      rw [ep]
      clear hok htb ep
      generalize u.extract 0 2 = V at *
      refine con_of Tryz.tysOk Tryz.func20 rfl rfl ?_
      conv => whnf
      repeat' (first
        | (first | ((with_reducible refine Br.tt ?_); conv => whnf) | ((with_reducible refine Br.dt ?_ ?_); (focus (first | assumption | omega)); conv => whnf) | ((with_reducible refine Br.ndt ?_ ?_); (focus (first | assumption | omega)); conv => whnf) | ((with_reducible refine Br.ndf ?_ ?_); (focus (first | assumption | omega)); conv => whnf))
        | ((with_reducible refine Nd.mk ?_ ?_); (focus (first | omega | rfl | assumption | (simp; done))); conv => whnf)
        | ((with_reducible refine Nc.go' (fun _ => ?_)); conv => whnf)
        | (refine LdN.at 2 rfl (by first | exact Nat.le_of_ble_eq_true rfl | (simp; done)) ?_; conv => whnf)
        | (refine St.at 2 rfl (by first | exact Nat.le_of_ble_eq_true rfl | (simp; done)) rfl ?_; conv => whnf)
        | (first | ((with_reducible refine Cl.is (hop _) ?_); conv => whnf) | ((with_reducible refine Cl.exs (hnew _) (fun b1 _ => ?_)); conv => whnf) | ((refine Cl.isAt 0 rfl (htx _ _) ?_); conv => whnf) | ((refine Cl.isAt 0 rfl (her _ _) ?_); conv => whnf))
        | ((refine Sm.b2s (xs := [67, 1]) Tryz.tysOk rfl (Rd.ptc 0 rfl [67, 1] rfl) rfl rfl rfl rfl rfl rfl ?_); conv => whnf))
      all_goals first | (exfalso; omega) | exact Exs.of noCfg (by (try dsimp only); (refine FEnt.ent ?_; (repeat (first | exact FEnt.rfl | refine FEnt.nil ?_ | refine FEnt.drop ?_)); done)) (NO 3 (by decide)) rfl
  · have hb0 : (nxt u 2 (true, 0)).1 = false := nxt_bad (by omega)
    have ep : prsE u = 5 := by unfold prsE; rw [if_neg (fun h => h2 h.1), if_pos (fun h => h2 (by have := h.1; omega))]
    rw [ep]
    have hle0 : (nxt u 2 (true, 0)).2 ≤ u.size := nxt_le (Nat.zero_le _)
    generalize (if true = true ∧ 0 + 2 ≤ u.size then u.extract 0 (0 + 2) else (⟨#[]⟩ : ByteArray)) = V at *
    generalize nxt u 2 (true, 0) = tt at *
    have htb := fun b L => htb b tt L hle0
    have hb := tbl_f (s := u) hb0
    unfold Tryz.TbP at htb
    generalize tblF u tt = T at *
    obtain ⟨TW, TS, TX, TT⟩ := T
    dsimp only at hb
    have her := fun b L => Tryz.rErr b u tt L
    have e0 : rE tt = 5 := by unfold rE; rw [if_neg (by rw [hb0]; decide)]
    rw [e0] at her
    have her2 := fun b L => Tryz.rErr b u TT L
    have e1 : rE TT = 5 := by unfold rE; rw [if_neg (by rw [hb]; decide)]
    rw [e1] at her2
    refine con_of Tryz.tysOk Tryz.func20 rfl rfl ?_
    conv => whnf
    repeat' (first
      | (first | ((with_reducible refine Br.ff ?_); conv => whnf) | ((with_reducible refine Br.df ?_ ?_); (focus (first | assumption | omega)); conv => whnf) | ((with_reducible refine Br.ndt ?_ ?_); (focus (first | assumption | omega)); conv => whnf) | ((with_reducible refine Br.ndf ?_ ?_); (focus (first | assumption | omega)); conv => whnf))
      | ((with_reducible refine Nd.mk ?_ ?_); (focus (first | omega | rfl | assumption | (simp; done))); conv => whnf)
      | ((with_reducible refine Nc.go' (fun _ => ?_)); conv => whnf)
      | (refine LdN.at 5 rfl (by first | exact Nat.le_of_ble_eq_true rfl | (simp; done)) ?_; conv => whnf)
      | (first | (refine St.at 0 rfl (by first | exact Nat.le_of_ble_eq_true rfl | (simp; done)) rfl ?_; conv => whnf) | (refine St.at 5 rfl (by first | exact Nat.le_of_ble_eq_true rfl | (simp; done)) rfl ?_; conv => whnf))
      | (first | ((with_reducible refine Cl.is (hop _) ?_); conv => whnf) | ((with_reducible refine Cl.exs (hnew _) (fun b1 _ => ?_)); conv => whnf) | ((refine Cl.isAt 0 rfl (htx _ _) ?_); conv => whnf) | (apply (Cl.pre [ptc b1 _ _]); (focus ((repeat (first | exact FEnt.rfl | (refine FEnt.at 4 rfl ?_; (try simp only [List.eraseIdx_cons_zero, List.eraseIdx_cons_succ, List.eraseIdx_zero, List.tail_cons])))); done)); refine Cl.exs (htb _ _) ?_; rintro ⟨F, wa, wc, W, sa, sc, S, ca, cc, X⟩ ⟨⟨q1, q2, q3, q4⟩, q5, q6, q7⟩; conv => whnf) | ((with_reducible refine (?_ : Cl _ 51 _ _ _ _)); (first | refine Cl.isAt 0 rfl (her2 _ _) ?_ | refine Cl.isAt 3 rfl (her2 _ _) ?_ | refine Cl.isAt 4 rfl (her2 _ _) ?_ | refine Cl.isAt 0 rfl (her _ _) ?_); conv => whnf)))
    all_goals first | (exfalso; omega) | exact Exs.of noCfg (by (try dsimp only); (refine FEnt.ent ?_; (repeat (first | exact FEnt.rfl | refine FEnt.nil ?_ | refine FEnt.drop ?_)); done)) (NO 5 (by decide)) rfl
end Go.Proofs
