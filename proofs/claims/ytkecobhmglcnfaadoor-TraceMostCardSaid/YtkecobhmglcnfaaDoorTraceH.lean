/- Words as bytes: contract. -/
import Derived.Test.YtkecobhmglcnfaaDoorTraceG
set_option linter.all false
namespace Go.Proofs
open Go.Eng
open Classical
set_option linter.unusedVariables false
set_option maxRecDepth 100000
set_option maxHeartbeats 4000000
abbrev hv (s : ByteArray) (i : Nat) : Int := halfV (sAt s i).toNat
theorem halfV_bd (n : Int) : 0 ≤ halfV n ∧ halfV n ≤ 16 := by
  unfold halfV
  split
  · omega
  · split <;> omega
/-- the bytes of pairs of digits -/
def pairsF (s : ByteArray) : Nat → List UInt8
  | 0 => []
  | k + 1 => pairsF s k ++ [u8of (16 * hv s (2 * k) + hv s (2 * k + 1))]
theorem pairs_len (s : ByteArray) (k : Nat) : (pairsF s k).length = k := by
  induction k with
  | zero => rfl
  | succ k ih => rw [pairsF, List.length_append, ih]; rfl
structure DataOk (s : ByteArray) : Prop where
  ne : 1 ≤ s.size
  ev : s.size % 2 = 0
  all : ∀ i, i < s.size → hv s i ≤ 15
theorem or16 {x y : Int} (hx : 0 ≤ x ∧ x ≤ 15) (hy : 0 ≤ y ∧ y ≤ 15) : bits .or .u8 (16 * x) y = 16 * x + y := by
  obtain ⟨a, rfl⟩ : ∃ a : Nat, x = a := ⟨x.toNat, by omega⟩
  obtain ⟨b, rfl⟩ : ∃ b : Nat, y = b := ⟨y.toNat, by omega⟩
  have key : ∀ (a b : Fin 16), bits .or .u8 (16 * ((a.val : Nat) : Int)) ((b.val : Nat) : Int) = 16 * ((a.val : Nat) : Int) + ((b.val : Nat) : Int) := by decide +kernel
  exact key ⟨a, by omega⟩ ⟨b, by omega⟩
theorem Tryd.trcData (s : ByteArray) (L : List HP) (hs : s.size ≤ 1000000) (hd : DataOk s) (hm : s ≠ ⟨#[45]⟩) :
    Con Tryd.prog 58 [.string s] L (Is (.tuple #[.string (bsL (pairsF s (s.size / 2))), .bool true]) L) := by
  have hne : ¬ s = ⟨#[]⟩ := fun e => by subst e; exact absurd hd.ne (by decide)
  have hm' : ¬ s = ⟨#[45]⟩ := hm
  have hev := hd.ev
  have hha := fun n L h => Tryd.trcHalf n L h
  have t1 : (s.size : Int).tmod 2 = ((s.size % 2 : Nat) : Int) := by rw [Int.tmod_eq_emod_of_nonneg (by omega)]; rfl
  refine con_of Tryd.tysOk Tryd.func58 rfl rfl ?_
  conv => whnf
  repeat' (first
    | (first | ((with_reducible refine Br.ff ?_); conv => whnf) | ((with_reducible refine Br.df ?_ ?_); (focus (first | assumption | omega)); conv => whnf) | ((with_reducible refine Br.ndf ?_ ?_); (focus (first | assumption | omega)); conv => whnf))
    | ((with_reducible refine Nd.mk ?_ ?_); (focus (first | omega | rfl | assumption | (simp; done))); conv => whnf)
    | ((rw [t1]); conv => whnf))
  conv => whnf
  refine Lp.by3 Tryd.tysOk [5, 4] (fun (k : Nat) (i : Int) (P : Option Addr × Nat × List UInt8) => [.int .i64 i, .slice P.1 P.2.2.length P.2.1]) (fun k i P => own u8E 5 P.1 P.2.1 P.2.2 :: L) (fun k i P => i = 2 * k ∧ 2 * k ≤ s.size ∧ (P.2.2 = pairsF s k ∧ P.2.2.length ≤ P.2.1 ∧ Ad P.1 P.2.2.length)) (fun k i P => s.size - 2 * k) (0) (0) (((none, 0, []) : Option Addr × Nat × List UInt8)) (by kernel_rfl) (by (exact Ent.nil)) (⟨by omega, by omega, ⟨rfl, by simp, fun h => absurd rfl h⟩⟩) ?_
  rintro k i ⟨a, c, ys⟩ ⟨g0, g1, g2, g3, g4⟩
  conv => whnf
  repeat (intro _; conv => whnf)
  dsimp only at g2 g3 g4
  have hyl : ys.length = k := by rw [g2, pairs_len]
  by_cases hk : 2 * k < s.size
  · have hu := u8_lt (sAt s (2 * k))
    have hu2 := u8_lt (sAt s (2 * k + 1))
    have b1 := halfV_bd (sAt s (2 * k)).toNat
    have b2 := halfV_bd (sAt s (2 * k + 1)).toNat
    have a1 := hd.all (2 * k) hk
    have a2 := hd.all (2 * k + 1) (by omega)
    have hor := or16 ⟨b1.1, a1⟩ ⟨b2.1, a2⟩
    obtain rfl : i = ((2 * k : Nat) : Int) := by omega
    have h1 := fun L => hha ((sAt s (2 * k)).toNat : Int) L (by omega)
    have h2 : ∀ L, Con Tryd.prog 66 [z8 ((sAt s (Int.toNat (((2 * k : Nat) : Int) + 1))).toNat : Int)] L (Is (z8 (halfV (sAt s (2 * k + 1)).toNat)) L) := fun L => hha _ L (by show _ ∧ ((sAt s (2 * k + 1)).toNat : Int) ≤ 255; omega)
    have hor2 : bits .or .u8 ((u8of (halfV ((sAt s (2 * k)).toNat : Int) * 2 ^ min (Int.toNat 4) IntKind.u8.bits)).toNat : Int) (halfV ((sAt s (2 * k + 1)).toNat : Int)) = ((u8of (16 * hv s (2 * k) + hv s (2 * k + 1))).toNat : Int) := by
      have e16 : (2 : Int) ^ min (Int.toNat 4) IntKind.u8.bits = 16 := rfl
      have hx : (0 : Int) ≤ halfV ((sAt s (2 * k)).toNat : Int) ∧ halfV ((sAt s (2 * k)).toNat : Int) ≤ 15 := ⟨b1.1, a1⟩
      have hy : (0 : Int) ≤ halfV ((sAt s (2 * k + 1)).toNat : Int) ∧ halfV ((sAt s (2 * k + 1)).toNat : Int) ≤ 15 := ⟨b2.1, a2⟩
      rw [u8of_int, u8of_int, e16]
      have e1 : halfV ((sAt s (2 * k)).toNat : Int) * 16 % 256 = 16 * halfV ((sAt s (2 * k)).toNat : Int) := by omega
      rw [e1, hor]
      show _ = (16 * halfV ((sAt s (2 * k)).toNat : Int) + halfV ((sAt s (2 * k + 1)).toNat : Int)) % 256
      omega
    have hsn : pairsF s (k + 1) = ys ++ [u8of (16 * hv s (2 * k) + hv s (2 * k + 1))] := by rw [g2]; rfl
    clear g2 hor hd
    conv => whnf
    repeat' (first
      | (first | ((with_reducible refine Br.ff ?_); conv => whnf) | ((with_reducible refine Br.dt ?_ ?_); (focus (first | assumption | omega)); conv => whnf) | ((with_reducible refine Br.no ?_ ?_); (focus (first | (simp; done) | (simp; omega))); conv => whnf))
      | ((refine Bt.is hor2 ?_); conv => whnf)
      | (first | ((with_reducible refine Ar.u8b ?_); conv => whnf) | ((with_reducible refine Ar.i64 ?_ ?_); (focus omega); conv => whnf))
      | ((with_reducible refine Nd.mk ?_ ?_); (focus (first | omega | rfl | assumption | (simp; done))); conv => whnf)
      | ((with_reducible refine Nc.go' (fun _ => ?_)); conv => whnf)
      | ((with_reducible refine SIx.nat ?_ ?_); (focus (omega)); conv => whnf)
      | ((with_reducible refine SIx.mk' ?_ ?_); (focus (omega)); conv => whnf)
      | ((with_reducible refine Dr.by (id := 9) Tryd.tysOk rfl [(0, 0), (1, 0), (2, 0), (4, 0), (5, 0), (6, 0), (7, 0), (3, 1), (8, 1), (9, 0), (10, 0)] ?_ ?_); (focus kernel_rfl); conv => whnf)
      | (first | ((with_reducible refine CD.is (fun M => h1 _) ?_); conv => whnf) | ((with_reducible refine CD.is (fun M => h2 _) ?_); conv => whnf))
      | ((with_reducible refine (?_ : Sm _ (Builtin.append_ _ _ _) _ _)); (((with_reducible apply (Sm.appAt (E := u8E) (et := 5) Tryd.tysOk 1)); (focus rfl)); (rotate_left; (focus (exact Rd.ptc 0 rfl [_] rfl)); rotate_right; (focus rfl)); (focus rfl); (focus rfl); (focus rfl); (focus rfl); (focus rfl); (focus rfl); (focus ((simp only [List.length_append, List.length_cons, List.length_nil]); omega)); (intro _ _ _ _); conv => whnf)))
    all_goals try (exfalso; omega)
    rename_i a5 c5 hc5 had5
    exact ⟨k + 1, ((2 * k : Nat) : Int) + 2, (a5, c5, ys ++ [u8of (16 * hv s (2 * k) + hv s (2 * k + 1))]), by kernel_rfl, by (try dsimp only); (refine FEnt.ent ?_; (repeat (first | exact FEnt.rfl | (refine FEnt.at 0 rfl ?_; (try simp only [List.eraseIdx_cons_zero, List.eraseIdx_cons_succ, List.eraseIdx_zero, List.tail_cons])) | refine FEnt.drop ?_)); done), ⟨by omega, by omega, hsn.symm, hc5, had5⟩, by omega⟩
  · have e : k = s.size / 2 := by omega
    subst e
    subst g2
    clear hd
    conv => whnf
    repeat' (first
      | ((with_reducible refine Br.df ?_ ?_); (focus (first | assumption | omega)); conv => whnf)
      | ((with_reducible refine (?_ : Sm _ (convert _ _ _) _ _)); ((apply (Sm.b2s Tryd.tysOk)); ((focus rfl); (focus ((repeat ((refine Rd.own 0 rfl ?_); (assumption))); done))); (focus rfl); (focus rfl); (focus rfl); (focus rfl); (focus rfl); (focus rfl); conv => whnf)))
    all_goals first | (refine Is.ent ?_ ?_; (focus (refine FEnt.ent ?_; (repeat (first | exact FEnt.rfl | refine FEnt.drop ?_)); done)); (exact Is.rfl)) | (exfalso; omega)
theorem Tryd.trcDataDash (L : List HP) : Con Tryd.prog 58 [.string ⟨#[45]⟩] L (Is (.tuple #[.string ⟨#[]⟩, .bool true]) L) := by
  refine con_of Tryd.tysOk Tryd.func58 rfl rfl ?_
  conv => whnf
  repeat' ((with_reducible refine Br.yes ?_ ?_); (focus (first | (simp; done) | (simp; omega))); conv => whnf)
  all_goals (refine Is.ent ?_ ?_; (focus (exact Ent.rfl)); (exact Is.rfl))
theorem half_dg {n : Int} (h : 0 ≤ n ∧ n ≤ 15) : halfV ((dgU n).toNat : Int) = n := by
  rw [dgU_toNat h]
  unfold halfV dgI
  split <;> split <;> first | omega | (split <;> omega)
theorem hx2_at : ∀ (l : List UInt8) (k : Nat), k < l.length → (l.flatMap hx2).getD (2 * k) 0 = dgU (((l.getD k 0).toNat : Int) / 16) ∧ (l.flatMap hx2).getD (2 * k + 1) 0 = dgU (((l.getD k 0).toNat : Int) % 16)
  | [], k, h => absurd h (by simp)
  | x :: l, 0, _ => ⟨rfl, rfl⟩
  | x :: l, k + 1, h => by
    have ih := hx2_at l k (by simpa using h)
    have e : (x :: l).flatMap hx2 = dgU ((x.toNat : Int) / 16) :: dgU ((x.toNat : Int) % 16) :: l.flatMap hx2 := by simp [hx2]
    rw [e, show 2 * (k + 1) = 2 * k + 1 + 1 from by omega]
    exact ih
theorem hv_hex {l : List UInt8} {k : Nat} (hk : k < l.length) : hv (bsL (l.flatMap hx2)) (2 * k) = ((l.getD k 0).toNat : Int) / 16 ∧ hv (bsL (l.flatMap hx2)) (2 * k + 1) = ((l.getD k 0).toNat : Int) % 16 := by
  obtain ⟨h1, h2⟩ := hx2_at l k hk
  have hu := u8_lt (l.getD k 0)
  refine ⟨?_, ?_⟩
  · show halfV (((l.flatMap hx2).getD (2 * k) 0).toNat : Int) = _
    rw [h1]
    exact half_dg ⟨by omega, by omega⟩
  · show halfV (((l.flatMap hx2).getD (2 * k + 1) 0).toNat : Int) = _
    rw [h2]
    exact half_dg ⟨by omega, by omega⟩
theorem pairs_hex (l : List UInt8) : ∀ k, k ≤ l.length → pairsF (bsL (l.flatMap hx2)) k = l.take k
  | 0, _ => by simp [pairsF]
  | k + 1, h => by
    obtain ⟨h1, h2⟩ := hv_hex (l := l) (k := k) (by omega)
    rw [pairsF, pairs_hex l k (by omega), h1, h2, List.take_add_one, List.getElem?_eq_getElem (by omega)]
    have hu := u8_lt (l.getD k 0)
    have e : l.getD k 0 = l[k] := by simp [List.getD, show k < l.length by omega]
    rw [show 16 * (((l.getD k 0).toNat : Int) / 16) + ((l.getD k 0).toNat : Int) % 16 = ((l.getD k 0).toNat : Int) from by omega, u8of_toNat, e]
    rfl
theorem dataOk_hex {l : List UInt8} (h : 1 ≤ l.length) : DataOk (bsL (l.flatMap hx2)) := by
  have hl : (bsL (l.flatMap hx2)).size = 2 * l.length := by rw [bsL_size, hx2_len]
  refine ⟨by omega, by omega, fun i hi => ?_⟩
  rcases Nat.mod_two_eq_zero_or_one i with h2 | h2
  · obtain ⟨e1, _⟩ := hv_hex (l := l) (k := i / 2) (by omega)
    have hu := u8_lt (l.getD (i / 2) 0)
    rw [show 2 * (i / 2) = i from by omega] at e1
    rw [e1]
    omega
  · obtain ⟨_, e1⟩ := hv_hex (l := l) (k := i / 2) (by omega)
    have hu := u8_lt (l.getD (i / 2) 0)
    rw [show 2 * (i / 2) + 1 = i from by omega] at e1
    rw [e1]
    omega
theorem u8d {k : Nat} (h : k < 10) : (u8of (48 + (k : Int))).toNat = 48 + k := by
  have := u8of_int (48 + (k : Int))
  omega
theorem dec_props (N : Nat) : numV (Lib.decDigits N) = N ∧ (∀ x ∈ Lib.decDigits N, isDig x) ∧ Lib.decDigits N ≠ [] ∧ (1 ≤ N → ((Lib.decDigits N).headD 0).toNat ≠ 48) := by
  induction N using Nat.strongRecOn with
  | _ N ih =>
    by_cases h : N ≤ 9
    · have hd := u8d (k := N) (by omega)
      rw [dec_low h]
      refine ⟨?_, fun x hx => ?_, by simp, fun h1 => ?_⟩
      · show 10 * (0 : Int) + (((u8of (48 + (N : Int))).toNat : Int) - 48) = N
        omega
      · rw [List.mem_singleton.1 hx]
        exact ⟨by omega, by omega⟩
      · show (u8of (48 + (N : Int))).toNat ≠ 48
        omega
    · obtain ⟨i1, i2, i3, i4⟩ := ih (N / 10) (by omega)
      have hd := u8d (k := N % 10) (Nat.mod_lt N (by omega))
      rw [dec_high h]
      refine ⟨?_, fun x hx => ?_, by simp, fun h1 => ?_⟩
      · rw [numV_snoc, i1]
        omega
      · rcases List.mem_append.1 hx with hx | hx
        · exact i2 x hx
        · rw [List.mem_singleton.1 hx]
          exact ⟨by omega, by omega⟩
      · have h4 := i4 (by omega)
        cases hl : Lib.decDigits (N / 10) with
        | nil => exact absurd hl i3
        | cons y ys =>
          rw [hl] at h4
          exact h4
theorem dec_len : ∀ (k N : Nat), N < 10 ^ (k + 1) → (Lib.decDigits N).length ≤ k + 1
  | 0, N, h => by rw [dec_low (by omega)]; simp
  | k + 1, N, h => by
    by_cases h9 : N ≤ 9
    · rw [dec_low h9]; simp
    · have ih := dec_len k (N / 10) (by rw [Nat.pow_succ] at h; omega)
      rw [dec_high h9, List.length_append]
      simp only [List.length_cons, List.length_nil]
      omega
theorem numF_dec {N : Nat} (h : N ≤ 2147483647) : numF (bsL (Lib.decDigits N)) = N := by
  obtain ⟨h1, h2, h3, h4⟩ := dec_props N
  have hl := dec_len 9 N (by have : (10 : Nat) ^ (9 + 1) = 10000000000 := by decide
                             omega)
  have hpos : 0 < (Lib.decDigits N).length := by cases hd : Lib.decDigits N with
    | nil => exact absurd hd h3
    | cons y ys => simp
  unfold numF
  rw [if_pos, bsL_list, h1]
  refine ⟨hpos, hl, fun h5 => ?_, fun i hi => ?_, by rw [bsL_list, h1]; omega⟩
  · have hN : 1 ≤ N := by
      refine Nat.pos_of_ne_zero fun h0 => ?_
      subst h0
      rw [bsL_size, dec_low (by omega)] at h5
      simp at h5
    have := h4 hN
    show ((Lib.decDigits N).getD 0 0).toNat ≠ 48
    cases hd : Lib.decDigits N with
    | nil => exact absurd hd h3
    | cons y ys => rw [hd] at this; exact this
  · exact h2 _ (getD_mem (d := 0) hi)
theorem dec_no (N : Nat) : (32 : UInt8) ∉ Lib.decDigits N ∧ (10 : UInt8) ∉ Lib.decDigits N := by
  have h2 := (dec_props N).2.1
  exact ⟨fun h => absurd (h2 _ h).1 (by decide), fun h => absurd (h2 _ h).1 (by decide)⟩
theorem name_no {s : Int} (h : 1 ≤ s ∧ s ≤ 9) : (32 : UInt8) ∉ (nameF s).data.toList ∧ (10 : UInt8) ∉ (nameF s).data.toList := by
  have hs : s = 1 ∨ s = 2 ∨ s = 3 ∨ s = 4 ∨ s = 5 ∨ s = 6 ∨ s = 7 ∨ s = 8 ∨ s = 9 := by omega
  rcases hs with rfl | rfl | rfl | rfl | rfl | rfl | rfl | rfl | rfl <;> decide
theorem hex_no (d : ByteArray) : (32 : UInt8) ∉ hexF d ∧ (10 : UInt8) ∉ hexF d := by
  have key : ∀ x ∈ hexF d, 45 ≤ x.toNat := by
    unfold hexF
    split
    · intro x hx; rw [List.mem_singleton.1 hx]; decide
    · intro x hx
      obtain ⟨u, _, hu⟩ := List.mem_flatMap.1 hx
      have hb := u8_lt u
      have hd : ∀ n : Int, 0 ≤ n ∧ n ≤ 15 → 45 ≤ (dgU n).toNat := fun n hn => by
        have := dgU_toNat hn
        unfold dgI at this
        split at this <;> omega
      simp only [hx2, List.mem_cons, List.not_mem_nil, or_false] at hu
      rcases hu with rfl | rfl
      · exact hd _ ⟨by omega, by omega⟩
      · exact hd _ ⟨by omega, by omega⟩
  exact ⟨fun h => absurd (key _ h) (by decide), fun h => absurd (key _ h) (by decide)⟩
/-- a line's words, once more -/
theorem joinF_spl {m : Mrk} (hm : MayM m) : splL 32 (joinF m) = (wordsF m).map (·.data.toList) := by
  have h1 := itoa_nat hm.t.1
  have h2 := itoa_nat hm.a.1
  have h3 := itoa_nat hm.b.1
  have h4 := itoa_nat hm.n.1
  have e : joinF m = Lib.decDigits m.t.toNat ++ 32 :: ((nameF m.s).data.toList ++ 32 :: (Lib.decDigits m.a.toNat ++ 32 :: (Lib.decDigits m.b.toNat ++ 32 :: (Lib.decDigits m.n.toNat ++ 32 :: hexF m.d)))) := by
    simp only [joinF, wordsF, List.map_cons, List.map_nil, Lib.join_cons, Lib.joinTail, List.flatten_cons, List.flatten_nil, bsL_list, h1, h2, h3, h4, List.append_assoc, List.cons_append, List.nil_append, List.append_nil]
  unfold splL
  rw [e, spl_app (dec_no _).1, spl_app (name_no hm.s).1, spl_app (dec_no _).1, spl_app (dec_no _).1, spl_app (dec_no _).1, spl_none (hex_no _).1]
  simp only [wordsF, List.map_cons, List.map_nil, bsL_list, h1, h2, h3, h4]
theorem joinF_no {m : Mrk} (hm : MayM m) : (10 : UInt8) ∉ joinF m := by
  have h1 := itoa_nat hm.t.1
  have h2 := itoa_nat hm.a.1
  have h3 := itoa_nat hm.b.1
  have h4 := itoa_nat hm.n.1
  have k1 := (dec_no m.t.toNat).2
  have k2 := (name_no hm.s).2
  have k3 := (dec_no m.a.toNat).2
  have k4 := (dec_no m.b.toNat).2
  have k5 := (dec_no m.n.toNat).2
  have k6 := (hex_no m.d).2
  simp only [joinF, wordsF, List.map_cons, List.map_nil, Lib.join_cons, Lib.joinTail, List.flatten_cons, List.flatten_nil, bsL_list, h1, h2, h3, h4, List.mem_append, List.mem_cons, List.not_mem_nil, or_false, not_or, k1, k2, k3, k4, k5, k6, not_false_eq_true, and_true, true_and]
  decide
theorem map_inj_list : ∀ {l l' : List ByteArray}, l.map (·.data.toList) = l'.map (·.data.toList) → l = l'
  | [], [], _ => rfl
  | [], _ :: _, h => by simp at h
  | _ :: _, [], h => by simp at h
  | a :: l, b :: l', h => by
    simp only [List.map_cons, List.cons.injEq] at h
    rw [str_ext h.1, map_inj_list h.2]
theorem split_line {m : Mrk} (hm : MayM m) : Lib.splitB ⟨#[32]⟩ 0 (Lib.countB (bsL (joinF m)) ⟨#[32]⟩) (bsL (joinF m)) = wordsF m := by
  have h := Lib.splitB_data ⟨#[32]⟩ 0 (Lib.countB (bsL (joinF m)) ⟨#[32]⟩) (bsL (joinF m))
  have hc : Lib.countB (bsL (joinF m)) ⟨#[32]⟩ = (joinF m).count 32 := Lib.count_one 32 (joinF m)
  have h2 : Lib.splitK [32] 0 ((joinF m).count 32) (joinF m) = (wordsF m).map (·.data.toList) := (splitK_one 32 (joinF m)).trans (joinF_spl hm)
  rw [hc] at h ⊢
  have h3 := h.trans h2
  exact map_inj_list h3
end Go.Proofs
