/- Words as bytes, a line as a mark: contracts for any text. -/
import Derived.Test.YtkecobhmglcnfaaDoorTraceI
set_option linter.all false
namespace Go.Proofs
open Go.Eng
open Classical
set_option linter.unusedVariables false
set_option maxRecDepth 100000
set_option maxHeartbeats 4000000
theorem Tryd.trcDataNo (s : ByteArray) (L : List HP) (hs : s.size ≤ 1000000) (hd : ¬ DataOk s) (hm : ¬ s = ⟨#[45]⟩) :
    Con Tryd.prog 58 [.string s] L (Is (.tuple #[.string ⟨#[]⟩, .bool false]) L) := by
  by_cases h0 : s.size = 0
  · have := size_zero h0
    subst this
    refine con_of Tryd.tysOk Tryd.func58 rfl rfl ?_
    conv => whnf
    repeat' (first | ((with_reducible refine Br.tt ?_); conv => whnf) | ((with_reducible refine Br.df ?_ ?_); (focus (first | assumption | omega)); conv => whnf) | ((with_reducible refine Br.yes ?_ ?_); (focus (first | (simp; done) | (simp; omega))); conv => whnf))
    all_goals (refine Is.ent ?_ ?_; (focus (exact Ent.rfl)); (exact Is.rfl))
  · have hne : ¬ s = ⟨#[]⟩ := fun e => h0 (by rw [e]; rfl)
    have t1 : (s.size : Int).tmod 2 = ((s.size % 2 : Nat) : Int) := by rw [Int.tmod_eq_emod_of_nonneg (by omega)]; rfl
    by_cases hev : s.size % 2 = 0
    · have hha := fun n L h => Tryd.trcHalf n L h
      refine con_of Tryd.tysOk Tryd.func58 rfl rfl ?_
      conv => whnf
      repeat' (first
        | (first | ((with_reducible refine Br.ff ?_); conv => whnf) | ((with_reducible refine Br.df ?_ ?_); (focus (first | assumption | omega)); conv => whnf) | ((with_reducible refine Br.ndf ?_ ?_); (focus (first | assumption | omega)); conv => whnf))
        | ((with_reducible refine Nd.mk ?_ ?_); (focus (first | omega | rfl | assumption | (simp; done))); conv => whnf)
        | ((rw [t1]); conv => whnf))
      conv => whnf
      refine Lp.by3 Tryd.tysOk [5, 4] (fun (k : Nat) (i : Int) (P : Option Addr × Nat × List UInt8) => [.int .i64 i, .slice P.1 P.2.2.length P.2.1]) (fun k i P => own u8E 5 P.1 P.2.1 P.2.2 :: L) (fun k i P => (i = 2 * k ∧ 2 * k ≤ s.size ∧ ∀ j, j < 2 * k → hv s j ≤ 15) ∧ (P.2.2.length = k ∧ P.2.2.length ≤ P.2.1 ∧ Ad P.1 P.2.2.length)) (fun k i P => s.size - 2 * k) (0) (0) (((none, 0, []) : Option Addr × Nat × List UInt8)) (by kernel_rfl) (by (exact Ent.nil)) (⟨⟨by omega, by omega, fun j hj => by omega⟩, ⟨rfl, by simp, fun h => absurd rfl h⟩⟩) ?_
      rintro k i ⟨a, c, ys⟩ ⟨⟨g0, g1, gA⟩, g2, g3, g4⟩
      conv => whnf
      repeat (intro _; conv => whnf)
      dsimp only at g2 g3 g4
      by_cases hk : 2 * k < s.size
      · have hu := u8_lt (sAt s (2 * k))
        have hu2 := u8_lt (sAt s (2 * k + 1))
        have b1 := halfV_bd (sAt s (2 * k)).toNat
        have b2 := halfV_bd (sAt s (2 * k + 1)).toNat
        obtain rfl : i = ((2 * k : Nat) : Int) := by omega
        have h1 := fun L => hha ((sAt s (2 * k)).toNat : Int) L (by omega)
        have h2 : ∀ L, Con Tryd.prog 66 [z8 ((sAt s (Int.toNat (((2 * k : Nat) : Int) + 1))).toNat : Int)] L (Is (z8 (halfV (sAt s (2 * k + 1)).toNat)) L) := fun L => hha _ L (by show _ ∧ ((sAt s (2 * k + 1)).toNat : Int) ≤ 255; omega)
        by_cases hg : halfV (sAt s (2 * k)).toNat ≤ 15 ∧ halfV (sAt s (2 * k + 1)).toNat ≤ 15
        · obtain ⟨a1, a2⟩ := hg
          have hor := or16 ⟨b1.1, a1⟩ ⟨b2.1, a2⟩
          have gA' : ∀ j, j < 2 * (k + 1) → hv s j ≤ 15 := fun j hj => by
            rcases Nat.lt_or_ge j (2 * k) with h | h
            · exact gA j h
            · rcases (show j = 2 * k ∨ j = 2 * k + 1 by omega) with rfl | rfl
              · exact a1
              · exact a2
          have hor2 : bits .or .u8 ((u8of (halfV ((sAt s (2 * k)).toNat : Int) * 2 ^ min (Int.toNat 4) IntKind.u8.bits)).toNat : Int) (halfV ((sAt s (2 * k + 1)).toNat : Int)) = ((u8of (16 * hv s (2 * k) + hv s (2 * k + 1))).toNat : Int) := by
            have e16 : (2 : Int) ^ min (Int.toNat 4) IntKind.u8.bits = 16 := rfl
            rw [u8of_int, u8of_int, e16]
            have e1 : halfV ((sAt s (2 * k)).toNat : Int) * 16 % 256 = 16 * halfV ((sAt s (2 * k)).toNat : Int) := by omega
            rw [e1, hor]
            show _ = (16 * halfV ((sAt s (2 * k)).toNat : Int) + halfV ((sAt s (2 * k + 1)).toNat : Int)) % 256
            omega
          clear gA hor hd
          conv => whnf
          repeat' (first
            | (first | ((with_reducible refine Br.ff ?_); conv => whnf) | ((with_reducible refine Br.dt ?_ ?_); (focus (first | assumption | omega)); conv => whnf) | ((with_reducible refine Br.df ?_ ?_); (focus (first | assumption | omega)); conv => whnf))
            | ((refine Bt.is hor2 ?_); conv => whnf)
            | (first | ((with_reducible refine Ar.u8b ?_); conv => whnf) | ((with_reducible refine Ar.i64 ?_ ?_); (focus omega); conv => whnf))
            | ((with_reducible refine Nd.mk ?_ ?_); (focus (first | omega | rfl | assumption | (simp; done))); conv => whnf)
            | ((with_reducible refine Nc.go' (fun _ => ?_)); conv => whnf)
            | ((with_reducible refine SIx.nat ?_ ?_); (focus (omega)); conv => whnf)
            | ((with_reducible refine SIx.mk' ?_ ?_); (focus (omega)); conv => whnf)
            | ((with_reducible refine Dr.by (id := 9) Tryd.tysOk rfl [(0, 0), (1, 0), (2, 0), (4, 0), (5, 0), (6, 0), (7, 0), (3, 1), (8, 1), (9, 0), (10, 0)] ?_ ?_); (focus kernel_rfl); conv => whnf)
            | (first | ((with_reducible refine CD.is (fun M => h1 _) ?_); conv => whnf) | ((with_reducible refine CD.is (fun M => h2 _) ?_); conv => whnf))
            | ((with_reducible refine (?_ : Sm _ (Builtin.append_ _ _ _) _ _)); (((with_reducible apply (Sm.appAt (E := u8E) (et := 5) Tryd.tysOk 1)); (focus rfl)); (rotate_left; (focus (exact Rd.ptc 0 rfl [_] rfl)); rotate_right; (focus rfl)); (focus rfl); (focus rfl); (focus rfl); (focus rfl); (focus rfl); (focus rfl); (focus ((simp only [List.length_append, List.length_cons, List.length_nil]); omega)); (intro _ _ _ _); conv => whnf)))
          all_goals try (exfalso; omega)
          rename_i a5 c5 hc5 had5
          exact ⟨k + 1, ((2 * k : Nat) : Int) + 2, (a5, c5, ys ++ [u8of (16 * hv s (2 * k) + hv s (2 * k + 1))]), by kernel_rfl, by (try dsimp only); (refine FEnt.ent ?_; (repeat (first | exact FEnt.rfl | (refine FEnt.at 0 rfl ?_; (try simp only [List.eraseIdx_cons_zero, List.eraseIdx_cons_succ, List.eraseIdx_zero, List.tail_cons])) | refine FEnt.drop ?_)); done), ⟨⟨by omega, by omega, gA'⟩, by rw [List.length_append]; simp only [List.length_cons, List.length_nil]; omega, hc5, had5⟩, by omega⟩
        · have hg2 : 15 < halfV (sAt s (2 * k)).toNat ∨ 15 < halfV (sAt s (2 * k + 1)).toNat := by
            rcases Int.lt_or_le 15 (halfV (sAt s (2 * k)).toNat) with h | h
            · exact .inl h
            · exact .inr (Int.lt_of_not_ge fun h' => hg ⟨h, h'⟩)
          clear gA hd hg
          conv => whnf
          repeat' (first
            | (first | ((with_reducible refine Br.tt ?_); conv => whnf) | ((with_reducible refine Br.ff ?_); conv => whnf) | ((with_reducible refine Br.dt ?_ ?_); (focus (first | assumption | omega)); conv => whnf))
            | ((with_reducible refine Ar.i64 ?_ ?_); (focus omega); conv => whnf)
            | ((with_reducible refine SIx.nat ?_ ?_); (focus (omega)); conv => whnf)
            | ((with_reducible refine SIx.mk' ?_ ?_); (focus (omega)); conv => whnf)
            | ((with_reducible refine Dr.by (id := 9) Tryd.tysOk rfl [(0, 0), (1, 0), (2, 0), (4, 0), (5, 0), (6, 0), (7, 0), (3, 1), (8, 1), (9, 0), (10, 0)] ?_ ?_); (focus kernel_rfl); conv => whnf)
            | (first | ((with_reducible refine CD.is (fun M => h1 _) ?_); conv => whnf) | ((with_reducible refine CD.is (fun M => h2 _) ?_); conv => whnf))
            | ((with_reducible refine Br.ds (fun _ => ?_) (fun _ => ?_) ) <;> (conv => whnf)))
          all_goals first | (refine Is.ent ?_ ?_; (focus (refine FEnt.ent ?_; (repeat (first | exact FEnt.rfl | refine FEnt.drop ?_)); done)); (exact Is.rfl)) | (exfalso; omega)
      · exact absurd ⟨by omega, hev, fun j hj => gA j (by omega)⟩ hd
    · clear hd
      refine con_of Tryd.tysOk Tryd.func58 rfl rfl ?_
      conv => whnf
      repeat' (first
        | (first | ((with_reducible refine Br.ff ?_); conv => whnf) | ((with_reducible refine Br.df ?_ ?_); (focus (first | assumption | omega)); conv => whnf) | ((with_reducible refine Br.ndt ?_ ?_); (focus (first | assumption | omega)); conv => whnf))
        | ((with_reducible refine Nd.mk ?_ ?_); (focus (first | omega | rfl | assumption | (simp; done))); conv => whnf))
      all_goals first | (refine Is.ent ?_ ?_; (focus (exact Ent.rfl)); (exact Is.rfl)) | (exfalso; omega)
theorem Tryd.trcDataAny (s : ByteArray) (L : List HP) (hs : s.size ≤ 1000000) : Con Tryd.prog 58 [.string s] L (Is (.tuple #[.string (datF s), .bool (decide (DatG s))]) L) := by
  by_cases h1 : s = dashB
  · subst h1
    rw [show decide (DatG dashB) = true from decide_eq_true (.inl rfl), show datF dashB = ⟨#[]⟩ from if_pos rfl]
    exact Tryd.trcDataDash L
  · by_cases h2 : DataOk s
    · rw [show decide (DatG s) = true from decide_eq_true (.inr h2), show datF s = bsL (pairsF s (s.size / 2)) from by unfold datF; rw [if_neg h1, if_pos h2]]
      exact Tryd.trcData s L hs h2 h1
    · rw [show decide (DatG s) = false from decide_eq_false (fun h => h.elim h1 h2), show datF s = ⟨#[]⟩ from by unfold datF; rw [if_neg h1, if_neg h2]]
      exact Tryd.trcDataNo s L hs h2 h1
theorem split_any (c : UInt8) (s : ByteArray) : Lib.splitB ⟨#[c]⟩ 0 (Lib.countB s ⟨#[c]⟩) s = (splL c s.data.toList).map bsL := by
  have h := Lib.splitB_data ⟨#[c]⟩ 0 (Lib.countB s ⟨#[c]⟩) s
  have hc : Lib.countB s ⟨#[c]⟩ = s.data.toList.count c := Lib.count_one c s.data.toList
  have h2 : Lib.splitK [c] 0 (s.data.toList.count c) s.data.toList = ((splL c s.data.toList).map bsL).map (·.data.toList) := by
    rw [splitK_one, List.map_map]
    exact (List.map_id _).symm
  rw [hc] at h ⊢
  exact map_inj_list (h.trans h2)
noncomputable def rdV (l : List UInt8) : Mrk := if (wds l).length = 6 then rdM l else ⟨0, 0, 0, 0, 0, ⟨#[]⟩⟩
theorem rdV_ok {l : List UInt8} (h : rdOk l) : rdV l = rdM l := if_pos h.1
theorem Tryd.trcReadW (s : ByteArray) (ws nl : List ByteArray) (m0 m2 m3 m4 so : Int) (d6 : ByteArray) (bd bm : Bool) (L : List HP) (hM : Tryd.Mx L)
    (hsp : ∀ L, Tryd.Mx L → Con Tryd.prog 55 [.string s, .string ⟨#[32]⟩] L (New strE 9 ws L)) (h6 : ws.length = 6)
    (n0 : ∀ L, Con Tryd.prog 57 [.string (ws.getD (Int.toNat 0) strE.d)] L (Is (z64 m0) L)) (n2 : ∀ L, Con Tryd.prog 57 [.string (ws.getD (Int.toNat 2) strE.d)] L (Is (z64 m2) L))
    (n3 : ∀ L, Con Tryd.prog 57 [.string (ws.getD (Int.toNat 3) strE.d)] L (Is (z64 m3) L)) (n4 : ∀ L, Con Tryd.prog 57 [.string (ws.getD (Int.toNat 4) strE.d)] L (Is (z64 m4) L))
    (d5 : ∀ L, Con Tryd.prog 58 [.string (ws.getD (Int.toNat 5) strE.d)] L (Is (.tuple #[.string d6, .bool bd]) L)) (hso : -1 ≤ so ∧ so ≤ 8)
    (hnm : ∀ L, Con Tryd.prog 40 [] L (New strE 9 nl L)) (hnl : nl.length = 10)
    (hix : ∀ a c L, Rd strE L a (nl.drop (Int.toNat 1)) → Con Tryd.prog 56 [.slice a (nl.drop (Int.toNat 1)).length c, .string (ws.getD (Int.toNat 1) strE.d)] L (Is (.int .i64 so) L))
    (hmy : ∀ L, Con Tryd.prog 18 [mrV ⟨m0, so + 1, m2, m3, m4, d6⟩] L (Is (.bool bm) L)) :
    Con Tryd.prog 42 [.string s] L (Is (.tuple #[mrV ⟨m0, so + 1, m2, m3, m4, d6⟩, .bool (bd && bm)]) L) := by
  have q1 : ((u8of (so + 1)).toNat : Int) = so + 1 := by rw [u8of_int]; omega
  have hdl : (nl.drop (Int.toNat 1)).length = 9 := by rw [List.length_drop]; omega
  cases bd with
  | true =>
    rw [Bool.true_and]
    refine con_of Tryd.tysOk Tryd.func42 rfl rfl ?_
    conv => whnf
    repeat' (first
      | (first | ((with_reducible refine Br.tt ?_); conv => whnf) | ((with_reducible refine Br.ndf ?_ ?_); (focus (first | assumption | omega)); conv => whnf))
      | (first | ((with_reducible refine Ar.u8b ?_); conv => whnf) | ((with_reducible refine Ar.i64 ?_ ?_); (focus omega); conv => whnf))
      | ((with_reducible refine Nd.mk ?_ ?_); (focus (first | omega | rfl | assumption | (simp; done))); conv => whnf)
      | ((with_reducible refine Nc.go' (fun _ => ?_)); conv => whnf)
      | ((with_reducible refine Ix.ad ?_ ?_ ?_); (focus (assumption)); (focus (omega)); conv => whnf)
      | ((with_reducible refine Sub.suf rfl ?_ ?_ ?_); (focus (omega)); (focus (omega)); conv => whnf)
      | ((apply Ld.rd0); (focus ((repeat ((first | refine Rd.own 0 rfl ?_ | refine Rd.own 1 rfl ?_ | refine Rd.own 2 rfl ?_); (assumption))); done)); (focus rfl); (focus (omega)); (focus rfl); conv => whnf)
      | (first | (refine LdN.at 0 rfl (by first | exact Nat.le_of_ble_eq_true rfl | (simp; done)) ?_; conv => whnf) | (refine LdN.at 3 rfl (by first | exact Nat.le_of_ble_eq_true rfl | (simp; done)) ?_; conv => whnf))
      | (first | (refine St.at 0 rfl (by first | exact Nat.le_of_ble_eq_true rfl | (simp; done)) rfl ?_; conv => whnf) | (refine St.at 3 rfl (by first | exact Nat.le_of_ble_eq_true rfl | (simp; done)) rfl ?_; conv => whnf))
      | ((with_reducible refine Dr.by (id := 4) Tryd.tysOk rfl [(2, 0), (3, 0), (4, 1), (0, 4), (1, 0), (5, 1), (6, 0), (7, 0)] ?_ ?_); (focus kernel_rfl); conv => whnf)
      | ((with_reducible refine Dr.by (id := 5) Tryd.tysOk rfl [(0, 0), (1, 0), (4, 0), (5, 0), (6, 0), (7, 0), (10, 0), (11, 0), (14, 0), (15, 0), (2, 1), (3, 1), (8, 1), (9, 1), (12, 1), (13, 1), (16, 1), (17, 1), (18, 0), (19, 2), (20, 3)] ?_ ?_); (focus kernel_rfl); conv => whnf)
      | ((with_reducible refine Dr.by (id := 8) Tryd.tysOk rfl [(1, 0), (2, 0), (0, 1), (3, 1), (4, 1), (5, 0), (6, 3), (7, 0)] ?_ ?_); (focus kernel_rfl); conv => whnf)
      | (first | ((with_reducible refine CD.is (fun M => n0 _) ?_); conv => whnf) | ((with_reducible refine CD.is (fun M => n2 _) ?_); conv => whnf) | ((with_reducible refine CD.is (fun M => n3 _) ?_); conv => whnf) | ((with_reducible refine CD.is (fun M => n4 _) ?_); conv => whnf) | ((with_reducible refine CD.is (fun M => hmy _) ?_); conv => whnf) | ((with_reducible refine (?_ : CD _ 56 _ _ _)); (refine CD.is (fun M => hix _ _ _ (by ((repeat (first | ((refine Rd.own 0 rfl ?_); (assumption)) | refine Rd.drop ?_ _ _ (by (omega)) | apply Rd.app)); done))) ?_); conv => whnf))
      | ((with_reducible refine CN.new (fun M => hnm _) (fun _ _ _ _ => ?_)); conv => whnf)
      | (first | ((with_reducible refine Cl.new (hsp _ (by ((repeat (first | assumption | apply Tryd.mxCons | apply Tryd.mxApp)); done))) (fun _ _ _ _ => ?_)); conv => whnf) | ((with_reducible refine Cl.is (d5 _) ?_); conv => whnf))
      | ((rw [q1]); conv => whnf))
    all_goals (refine Is.ent ?_ ?_; (focus (refine FEnt.ent ?_; (repeat (first | exact FEnt.rfl | refine FEnt.drop ?_)); done)); (exact Is.rfl))
  | false =>
    rw [Bool.false_and]
    refine con_of Tryd.tysOk Tryd.func42 rfl rfl ?_
    conv => whnf
    repeat' (first
      | (first | ((with_reducible refine Br.ff ?_); conv => whnf) | ((with_reducible refine Br.ndf ?_ ?_); (focus (first | assumption | omega)); conv => whnf))
      | (first | ((with_reducible refine Ar.u8b ?_); conv => whnf) | ((with_reducible refine Ar.i64 ?_ ?_); (focus omega); conv => whnf))
      | ((with_reducible refine Nd.mk ?_ ?_); (focus (first | omega | rfl | assumption | (simp; done))); conv => whnf)
      | ((with_reducible refine Nc.go' (fun _ => ?_)); conv => whnf)
      | ((with_reducible refine Ix.ad ?_ ?_ ?_); (focus (assumption)); (focus (omega)); conv => whnf)
      | ((with_reducible refine Sub.suf rfl ?_ ?_ ?_); (focus (omega)); (focus (omega)); conv => whnf)
      | ((apply Ld.rd0); (focus ((repeat ((first | refine Rd.own 0 rfl ?_ | refine Rd.own 1 rfl ?_ | refine Rd.own 2 rfl ?_); (assumption))); done)); (focus rfl); (focus (omega)); (focus rfl); conv => whnf)
      | (first | (refine LdN.at 0 rfl (by first | exact Nat.le_of_ble_eq_true rfl | (simp; done)) ?_; conv => whnf) | (refine LdN.at 3 rfl (by first | exact Nat.le_of_ble_eq_true rfl | (simp; done)) ?_; conv => whnf))
      | (first | (refine St.at 0 rfl (by first | exact Nat.le_of_ble_eq_true rfl | (simp; done)) rfl ?_; conv => whnf) | (refine St.at 3 rfl (by first | exact Nat.le_of_ble_eq_true rfl | (simp; done)) rfl ?_; conv => whnf))
      | ((with_reducible refine Dr.by (id := 4) Tryd.tysOk rfl [(2, 0), (3, 0), (4, 1), (0, 4), (1, 0), (5, 1), (6, 0), (7, 0)] ?_ ?_); (focus kernel_rfl); conv => whnf)
      | ((with_reducible refine Dr.by (id := 5) Tryd.tysOk rfl [(0, 0), (1, 0), (4, 0), (5, 0), (6, 0), (7, 0), (10, 0), (11, 0), (14, 0), (15, 0), (2, 1), (3, 1), (8, 1), (9, 1), (12, 1), (13, 1), (16, 1), (17, 1), (18, 0), (19, 2), (20, 3)] ?_ ?_); (focus kernel_rfl); conv => whnf)
      | ((with_reducible refine Dr.by (id := 8) Tryd.tysOk rfl [(1, 0), (2, 0), (0, 1), (3, 1), (4, 1), (5, 0), (6, 3), (7, 0)] ?_ ?_); (focus kernel_rfl); conv => whnf)
      | (first | ((with_reducible refine CD.is (fun M => n0 _) ?_); conv => whnf) | ((with_reducible refine CD.is (fun M => n2 _) ?_); conv => whnf) | ((with_reducible refine CD.is (fun M => n3 _) ?_); conv => whnf) | ((with_reducible refine CD.is (fun M => n4 _) ?_); conv => whnf) | ((with_reducible refine (?_ : CD _ 56 _ _ _)); (refine CD.is (fun M => hix _ _ _ (by ((repeat (first | ((refine Rd.own 0 rfl ?_); (assumption)) | refine Rd.drop ?_ _ _ (by (omega)) | apply Rd.app)); done))) ?_); conv => whnf))
      | ((with_reducible refine CN.new (fun M => hnm _) (fun _ _ _ _ => ?_)); conv => whnf)
      | (first | ((with_reducible refine Cl.new (hsp _ (by ((repeat (first | assumption | apply Tryd.mxCons | apply Tryd.mxApp)); done))) (fun _ _ _ _ => ?_)); conv => whnf) | ((with_reducible refine Cl.is (d5 _) ?_); conv => whnf))
      | ((rw [q1]); conv => whnf))
    all_goals (refine Is.ent ?_ ?_; (focus (refine FEnt.ent ?_; (repeat (first | exact FEnt.rfl | refine FEnt.drop ?_)); done)); (exact Is.rfl))
theorem Tryd.trcReadAny (s : ByteArray) (L : List HP) (hs : s.size ≤ 1000000) (hM : Tryd.Mx L) :
    Con Tryd.prog 42 [.string s] L (Is (.tuple #[mrV (rdV s.data.toList), .bool (decide (rdOk s.data.toList))]) L) := by
  have hsp := fun L h => Tryd.splitS s ⟨#[32]⟩ L (by omega) (by decide) h
  rw [split_any] at hsp
  have hl := size_list s
  change ∀ L, Tryd.Mx L → Con Tryd.prog 55 [.string s, .string ⟨#[32]⟩] L (New strE 9 (wds s.data.toList) L) at hsp
  have hwl : (wds s.data.toList).length ≤ s.size + 1 := by
    have := (spl_len 32 s.data.toList).2.2
    simp only [wds, splL, List.length_map, List.length_cons]
    omega
  by_cases h6 : (wds s.data.toList).length = 6
  · have w0 := wd_len s.data.toList 0
    have w2 := wd_len s.data.toList 2
    have w3 := wd_len s.data.toList 3
    have w4 := wd_len s.data.toList 4
    have w5 := wd_len s.data.toList 5
    have e1 : rdV s.data.toList = rdM s.data.toList := if_pos h6
    have e2 : decide (rdOk s.data.toList) = (decide (DatG (wd s.data.toList 5)) && decide (MayM (rdM s.data.toList))) := by
      rw [← Bool.decide_and]
      exact decide_eq_decide.2 ⟨fun h => ⟨h.2.1, h.2.2⟩, fun h => ⟨h6, h.1, h.2⟩⟩
    rw [e1, e2]
    refine Tryd.trcReadW s (wds s.data.toList) nameL _ _ _ _ (Lib.idxOfS (nameL.drop 1) (wd s.data.toList 1)) _ _ _ L hM hsp h6 (fun L => Tryd.trcNumber (wd s.data.toList 0) L (by omega)) (fun L => Tryd.trcNumber (wd s.data.toList 2) L (by omega)) (fun L => Tryd.trcNumber (wd s.data.toList 3) L (by omega)) (fun L => Tryd.trcNumber (wd s.data.toList 4) L (by omega)) (fun L => Tryd.trcDataAny (wd s.data.toList 5) L (by omega)) (by have := sortF_P (wd s.data.toList 1); unfold sortF at this; omega) (fun L => Tryd.trcNames L) rfl (fun a c L h => ?_) (fun L => Tryd.trcMay (rdM s.data.toList) L (rdM_B _))
    have := Tryd.idxStr a c (nameL.drop 1) (wd s.data.toList 1) L h (by decide) (by decide)
    exact this
  · have hno : ¬ rdOk s.data.toList := fun h => h6 h.1
    have hz : rdV s.data.toList = ⟨0, 0, 0, 0, 0, ⟨#[]⟩⟩ := if_neg h6
    rw [decide_eq_false hno, hz]
    clear hno hz
    generalize wds s.data.toList = ws at *
    refine con_of Tryd.tysOk Tryd.func42 rfl rfl ?_
    conv => whnf
    repeat' (first
      | ((with_reducible refine Br.ndt ?_ ?_); (focus (first | assumption | omega)); conv => whnf)
      | ((with_reducible refine Nd.mk ?_ ?_); (focus (first | omega | rfl | assumption | (simp; done))); conv => whnf)
      | ((with_reducible refine Nc.go' (fun _ => ?_)); conv => whnf)
      | (refine LdN.at 1 rfl (by first | exact Nat.le_of_ble_eq_true rfl | (simp; done)) ?_; conv => whnf)
      | (refine St.at 1 rfl (by first | exact Nat.le_of_ble_eq_true rfl | (simp; done)) rfl ?_; conv => whnf)
      | ((with_reducible refine Cl.new (hsp _ (by ((repeat (first | assumption | apply Tryd.mxCons | apply Tryd.mxApp)); done))) (fun _ _ _ _ => ?_)); conv => whnf))
    all_goals first | (refine Is.ent ?_ ?_; (focus (refine FEnt.ent ?_; (repeat (first | exact FEnt.rfl | refine FEnt.drop ?_)); done)); (exact Is.rfl)) | (exfalso; omega)
end Go.Proofs
