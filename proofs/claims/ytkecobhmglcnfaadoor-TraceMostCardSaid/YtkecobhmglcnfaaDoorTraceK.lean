/- The document's reader of a line: contracts. -/
import Derived.Test.YtkecobhmglcnfaaDoorTraceJ
set_option linter.all false
namespace Go.Proofs
open Go.Eng
open Classical
set_option linter.unusedVariables false
set_option maxRecDepth 100000
set_option maxHeartbeats 4000000
theorem drop_at {s : ByteArray} {k : Nat} (hk : k < s.size) : s.data.toList.drop k = sAt s k :: s.data.toList.drop (k + 1) := by
  have hl := size_list s
  rw [List.drop_eq_getElem_cons (by omega), sAt_get hk]
theorem ext_one {s : ByteArray} {k : Nat} (hk : k < s.size) : s.extract k (k + 1) = ⟨#[sAt s k]⟩ := by
  refine str_ext ?_
  have hl := size_list s
  have e : (s.extract k (k + 1)).data.toList = (s.data.toList.drop k).take 1 := by
    rw [ByteArray.data_extract, Array.toList_extract, List.extract_eq_take_drop, show k + 1 - k = 1 from by omega]
  rw [e, drop_at hk]
  rfl
theorem Tryd.refSplit (c : UInt8) (s : ByteArray) (L : List HP) (hs : s.size ≤ 100000000) : Con Tryd.prog 43 [.string s, z8 c.toNat] L (New strE 9 ((splL c s.data.toList).map bsL) L) := by
  have hl := size_list s
  have hcb := u8_lt c
  refine con_of Tryd.tysOk Tryd.func43 rfl rfl ?_
  conv => whnf
  repeat' ((with_reducible refine Nc.go' (fun _ => ?_)); conv => whnf)
  rename_i b8
  conv => whnf
  refine Lp.by3 Tryd.tysOk [7, 6, 5] (fun (k : Nat) (w : ByteArray) (P : Option Addr × Nat × List ByteArray) => [.int .i64 k, .string w, .slice P.1 P.2.2.length P.2.1]) (fun k w P => own strE 9 P.1 P.2.1 P.2.2 :: L) (fun k w P => (k ≤ s.size ∧ w.size ≤ k) ∧ (P.2.2 ++ bsL (w.data.toList ++ (spl c (s.data.toList.drop k)).1) :: (spl c (s.data.toList.drop k)).2.map bsL = (splL c s.data.toList).map bsL ∧ P.2.2.length ≤ k ∧ P.2.2.length ≤ P.2.1 ∧ Ad P.1 P.2.2.length)) (fun k w P => s.size - k) (0) ((⟨#[]⟩ : ByteArray)) (((some ⟨b8, 0, none⟩, 0, []) : Option Addr × Nat × List ByteArray)) (by kernel_rfl) (by (refine FEnt.ent ?_; (repeat (first | exact FEnt.rfl | (refine FEnt.own0 0 rfl ?_; (try simp only [List.eraseIdx_cons_zero, List.eraseIdx_cons_succ, List.eraseIdx_zero, List.tail_cons])))); done)) (⟨⟨by omega, by decide⟩, ⟨rfl, by simp, by simp, fun _ => rfl⟩⟩) ?_
  rintro k w ⟨a, cc, ys⟩ ⟨⟨g0, g1⟩, g2, g3, g4, g5⟩
  conv => whnf
  repeat (intro _; conv => whnf)
  dsimp only at g2 g3 g4 g5
  by_cases hk : k < s.size
  · have hu := u8_lt (sAt s k)
    rw [drop_at hk] at g2
    by_cases hx : sAt s k = c
    · have hx2 : ((sAt s k).toNat : Int) = (c.toNat : Int) := by rw [hx]
      rw [hx] at g2
      have e : (ys ++ [w]) ++ bsL ([] ++ (spl c (s.data.toList.drop (k + 1))).1) :: (spl c (s.data.toList.drop (k + 1))).2.map bsL = (splL c s.data.toList).map bsL := by
        rw [← g2]
        simp only [spl, if_true, List.append_nil, List.append_assoc, List.cons_append, List.nil_append, List.map_cons]
      clear g2
      conv => whnf
      repeat' (first
        | ((with_reducible refine Br.dt ?_ ?_); (focus (first | assumption | omega)); conv => whnf)
        | ((with_reducible refine Ar.i64 ?_ ?_); (focus omega); conv => whnf)
        | ((with_reducible refine Nc.go' (fun _ => ?_)); conv => whnf)
        | ((with_reducible refine SIx.nat ?_ ?_); (focus (omega)); conv => whnf)
        | ((with_reducible refine (?_ : Sm _ (Builtin.append_ _ _ _) _ _)); (((with_reducible apply (Sm.appAt (E := strE) (et := 9) Tryd.tysOk 1)); (focus rfl)); (rotate_left; (focus (exact Rd.ptc 0 rfl [_] rfl)); rotate_right; (focus rfl)); (focus rfl); (focus rfl); (focus rfl); (focus rfl); (focus rfl); (focus rfl); (focus ((simp only [List.length_append, List.length_cons, List.length_nil]); omega)); (intro _ _ _ _); conv => whnf)))
      all_goals try (exfalso; omega)
      rename_i a5 c5 hc5 had5
      exact ⟨k + 1, (⟨#[]⟩ : ByteArray), (a5, c5, ys ++ [w]), by kernel_rfl, by (try dsimp only); (refine FEnt.ent ?_; (repeat (first | exact FEnt.rfl | (refine FEnt.at 0 rfl ?_; (try simp only [List.eraseIdx_cons_zero, List.eraseIdx_cons_succ, List.eraseIdx_zero, List.tail_cons])) | refine FEnt.drop ?_)); done), ⟨⟨by omega, by exact Nat.zero_le _⟩, e, by rw [List.length_append]; simp only [List.length_cons, List.length_nil]; omega, hc5, had5⟩, by omega⟩
    · have hx2 : ¬ ((sAt s k).toNat : Int) = (c.toNat : Int) := fun h => hx (UInt8.toNat_inj.1 (by omega))
      have xk : s.extract (Int.toNat (k : Int)) (Int.toNat ((k : Int) + 1)) = ⟨#[sAt s k]⟩ := ext_one hk
      have hz : (⟨#[sAt s k]⟩ : ByteArray).size = 1 := rfl
      have hz2 : (w ++ (⟨#[sAt s k]⟩ : ByteArray)).size = w.size + 1 := by rw [app_size]; rfl
      have e : ys ++ bsL ((w ++ (⟨#[sAt s k]⟩ : ByteArray)).data.toList ++ (spl c (s.data.toList.drop (k + 1))).1) :: (spl c (s.data.toList.drop (k + 1))).2.map bsL = (splL c s.data.toList).map bsL := by
        rw [← g2]
        simp only [spl, if_neg hx, append_list, List.append_assoc]
        rfl
      clear g2
      conv => whnf
      repeat' (first
        | (first | ((with_reducible refine Br.dt ?_ ?_); (focus (first | assumption | omega)); conv => whnf) | ((with_reducible refine Br.df ?_ ?_); (focus (first | assumption | omega)); conv => whnf))
        | ((with_reducible refine Ar.i64 ?_ ?_); (focus omega); conv => whnf)
        | ((with_reducible refine Nd.mk ?_ ?_); (focus (first | omega | rfl | assumption | (simp; done))); conv => whnf)
        | ((with_reducible refine SIx.nat ?_ ?_); (focus (omega)); conv => whnf)
        | ((with_reducible refine SubS.mid ?_ ?_); (focus (omega)); conv => whnf)
        | ((rw [xk]); conv => whnf))
      all_goals try (exfalso; omega)
      all_goals exact ⟨k + 1, w ++ (⟨#[sAt s k]⟩ : ByteArray), (a, cc, ys), by kernel_rfl, by (try dsimp only); (exact Ent.rfl), ⟨⟨by omega, by omega⟩, e, by (try dsimp only); omega, g4, g5⟩, by omega⟩
  · have e0 : s.data.toList.drop k = [] := List.drop_eq_nil_of_le (by omega)
    rw [e0] at g2
    have e : ys ++ [w] = (splL c s.data.toList).map bsL := by
      rw [← g2]
      simp only [spl, List.append_nil, List.map_nil]
    rw [← e]
    clear g2 e
    conv => whnf
    repeat' (first
      | ((with_reducible refine Br.df ?_ ?_); (focus (first | assumption | omega)); conv => whnf)
      | ((with_reducible refine Nc.go' (fun _ => ?_)); conv => whnf)
      | ((with_reducible refine (?_ : Sm _ (Builtin.append_ _ _ _) _ _)); (((with_reducible apply (Sm.appAt (E := strE) (et := 9) Tryd.tysOk 1)); (focus rfl)); (rotate_left; (focus (exact Rd.ptc 0 rfl [_] rfl)); rotate_right; (focus rfl)); (focus rfl); (focus rfl); (focus rfl); (focus rfl); (focus rfl); (focus rfl); (focus ((simp only [List.length_append, List.length_cons, List.length_nil]); omega)); (intro _ _ _ _); conv => whnf)))
    all_goals (rename_i a5 c5 hc5 had5; exact New.of rfl hc5 had5 (by (refine FEnt.ent ?_; (repeat (first | exact FEnt.rfl | (refine FEnt.at 0 rfl ?_; (try simp only [List.eraseIdx_cons_zero, List.eraseIdx_cons_succ, List.eraseIdx_zero, List.tail_cons])) | refine FEnt.drop ?_)); done)))
/-! a word's number -/
def rnumOk (s : ByteArray) : Prop := s.size ≤ 10 ∧ ∀ i, i < s.size → isDig (sAt s i)
noncomputable def rnumF (s : ByteArray) : Int := if rnumOk s then numV s.data.toList else -1
theorem pw10 : pw 10 = 10000000000 := by decide
theorem pw_le10 {k : Nat} (h : k ≤ 10) : pw k ≤ 10000000000 := by
  rcases Nat.lt_or_ge k 10 with h1 | h1
  · have := pw_le (k := k) (by omega); omega
  · have e : k = 10 := by omega
    subst e
    rw [pw10]; omega
theorem Tryd.refNumber (s : ByteArray) (L : List HP) (hs : s.size ≤ 1000000000) : Con Tryd.prog 59 [.string s] L (Is (z64 (rnumF s)) L) := by
  have hsl := size_list s
  refine con_of Tryd.tysOk Tryd.func59 rfl rfl ?_
  conv => whnf
  repeat' skip
  conv => whnf
  refine Lp.by2 Tryd.tysOk [4, 3] (fun (k : Nat) (n : Int) => [.int .i64 k, .int .i64 n]) (fun k n => L) (fun k n => (k ≤ s.size ∧ k ≤ 10) ∧ n = numV (s.data.toList.take k) ∧ (∀ i, i < k → isDig (sAt s i)) ∧ 0 ≤ n ∧ n + 1 ≤ pw k) (fun k n => s.size - k) (0) (0) (by kernel_rfl) (by (exact Ent.rfl)) (⟨by omega, rfl, fun i hi => by omega, by omega, by decide⟩) ?_
  rintro k n ⟨⟨g0, g1⟩, g2, g3, g4, g5⟩
  conv => whnf
  repeat (intro _; conv => whnf)
  by_cases hk : k < s.size
  · have hu := u8_lt (sAt s k)
    have hp := pw_le10 (k := k) (by omega)
    by_cases hd : isDig (sAt s k) ∧ k ≤ 9
    · have e := numV_take hk
      rw [← g2] at e
      have hp2 := pw_s k
      obtain ⟨⟨d1, d2⟩, d3⟩ := hd
      have g3' := lt_step g3 ⟨d1, d2⟩
      clear g2 g3
      conv => whnf
      repeat' (first
        | (first | ((with_reducible refine Br.ff ?_); conv => whnf) | ((with_reducible refine Br.dt ?_ ?_); (focus (first | assumption | omega)); conv => whnf) | ((with_reducible refine Br.df ?_ ?_); (focus (first | assumption | omega)); conv => whnf))
        | (first | ((with_reducible refine Ar.i64b ?_); conv => whnf) | ((with_reducible refine Ar.i64 ?_ ?_); (focus omega); conv => whnf))
        | ((with_reducible refine SIx.nat ?_ ?_); (focus (omega)); conv => whnf))
      all_goals first | (exfalso; omega) | exact ⟨k + 1, 10 * n + ((sAt s k).toNat : Int) - 48, by kernel_rfl, by (exact Ent.rfl), ⟨by omega, by omega, g3', by omega, by omega⟩, by omega⟩
    · have hno : rnumF s = -1 := by
        unfold rnumF
        rw [if_neg (fun h => hd ⟨h.2 k hk, by have := h.1; omega⟩)]
      have hd2 : (sAt s k).toNat < 48 ∨ 57 < (sAt s k).toNat ∨ 9 < k := by
        rcases Nat.lt_or_ge (sAt s k).toNat 48 with h | h
        · exact .inl h
        · rcases Nat.lt_or_ge 9 k with h' | h'
          · exact .inr (.inr h')
          · exact .inr (.inl (Nat.lt_of_not_le fun h'' => hd ⟨⟨h, h''⟩, h'⟩))
      rw [hno]
      clear g2 g3 hd
      conv => whnf
      repeat' (first
        | (first | ((with_reducible refine Br.tt ?_); conv => whnf) | ((with_reducible refine Br.ff ?_); conv => whnf) | ((with_reducible refine Br.dt ?_ ?_); (focus (first | assumption | omega)); conv => whnf))
        | ((with_reducible refine SIx.nat ?_ ?_); (focus (omega)); conv => whnf)
        | ((with_reducible refine Br.ds (fun _ => ?_) (fun _ => ?_) ) <;> (conv => whnf)))
      all_goals first | (refine Is.ent ?_ ?_; (focus (exact Ent.rfl)); (exact Is.rfl)) | (exfalso; omega)
  · have e0 : k = s.size := by omega
    subst e0
    rw [← hsl, List.take_length] at g2
    have hyes : rnumF s = n := by
      unfold rnumF
      rw [if_pos ⟨g1, g3⟩, g2]
    rw [hyes]
    clear g2 g3
    conv => whnf
    repeat' ((with_reducible refine Br.df ?_ ?_); (focus (first | assumption | omega)); conv => whnf)
    all_goals first | (refine Is.ent ?_ ?_; (focus (exact Ent.rfl)); (exact Is.rfl)) | (exfalso; omega)
theorem rnum_P (s : ByteArray) : Z64 (rnumF s) := by
  unfold rnumF
  by_cases h : rnumOk s
  · rw [if_pos h]
    have hl := size_list s
    have key : ∀ k, k ≤ s.size → 0 ≤ numV (s.data.toList.take k) ∧ numV (s.data.toList.take k) + 1 ≤ pw k := by
      intro k
      induction k with
      | zero => intro _; exact ⟨Int.le_refl _, Int.le_refl _⟩
      | succ k ih =>
        intro hk
        obtain ⟨h1, h2⟩ := ih (by omega)
        have hd := h.2 k (by omega)
        rw [numV_take (by omega), pw_s]
        omega
    have := key s.size (Nat.le_refl _)
    rw [← hl, List.take_length] at this
    rw [hl] at this
    have := pw_le10 h.1
    omega
  · rw [if_neg h]; omega
theorem rnum_dec {n : Int} (h : numP n) : rnumF (bsL (Lib.itoa n)) = n := by
  rw [itoa_nat h.1]
  obtain ⟨h1, h2, h3, h4⟩ := dec_props n.toNat
  have hl := dec_len 9 n.toNat (by have : (10 : Nat) ^ (9 + 1) = 10000000000 := by decide
                                   have := h.2; omega)
  unfold rnumF
  rw [if_pos ⟨by rw [bsL_size]; exact hl, fun i hi => h2 _ (getD_mem (d := 0) hi)⟩, bsL_list, h1]
  have := h.1
  omega
/-! a word's bytes -/
def hr (s : ByteArray) (i : Nat) : Int := if hv s i ≤ 15 then hv s i else 0
def rpairs (s : ByteArray) : Nat → List UInt8
  | 0 => []
  | k + 1 => rpairs s k ++ [u8of (16 * hr s (2 * k) + hr s (2 * k + 1))]
theorem rpairs_len (s : ByteArray) (k : Nat) : (rpairs s k).length = k := by
  induction k with
  | zero => rfl
  | succ k ih => rw [rpairs, List.length_append, ih]; rfl
theorem rpairs_eq {s : ByteArray} (h : ∀ i, i < s.size → hv s i ≤ 15) : ∀ k, 2 * k ≤ s.size → rpairs s k = pairsF s k
  | 0, _ => rfl
  | k + 1, hk => by
    rw [rpairs, pairsF, rpairs_eq h k (by omega)]
    unfold hr
    rw [if_pos (h _ (by omega)), if_pos (h _ (by omega))]
noncomputable def rdatF (s : ByteArray) : ByteArray := if s = dashB then ⟨#[]⟩ else bsL (rpairs s (s.size / 2))
/-- what is counted for one digit, below j -/
def upto (c j : Int) : Int := if c < j then c else 0
theorem all_at {j : Nat} (h : j < 16) : ((sAt allX j).toNat : Int) = dgI j := by
  have key : ∀ i : Fin 16, ((sAt allX i.val).toNat : Int) = dgI (i.val : Nat) := by decide +kernel
  exact key ⟨j, h⟩
theorem half_iff {x : Int} {j : Nat} (hx : 0 ≤ x ∧ x ≤ 255) (h : j < 16) : x = dgI j ↔ halfV x = j := by
  unfold halfV dgI
  split <;> split <;> first | omega | (split <;> omega)
theorem Tryd.refData (s : ByteArray) (L : List HP) (hs : s.size ≤ 100000000) : Con Tryd.prog 60 [.string s] L (Is (.string (rdatF s)) L) := by
  unfold rdatF
  by_cases h1 : s = dashB
  · rw [if_pos h1]
    subst h1
    refine con_of Tryd.tysOk Tryd.func60 rfl rfl ?_
    conv => whnf
    repeat' ((with_reducible refine Br.yes ?_ ?_); (focus (first | (simp; done) | (simp; omega))); conv => whnf)
    all_goals (refine Is.ent ?_ ?_; (focus (exact Ent.rfl)); (exact Is.rfl))
  · rw [if_neg h1]
    have h1' : ¬ s = ⟨#[45]⟩ := h1
    have hall : (⟨#[48, 49, 50, 51, 52, 53, 54, 55, 56, 57, 97, 98, 99, 100, 101, 102]⟩ : ByteArray).size = 16 := rfl
    refine con_of Tryd.tysOk Tryd.func60 rfl rfl ?_
    conv => whnf
    repeat' (first
      | ((with_reducible refine Br.df ?_ ?_); (focus (first | assumption | omega)); conv => whnf)
      | ((with_reducible refine Nc.go' (fun _ => ?_)); conv => whnf))
    rename_i b10
    conv => whnf
    refine Lp.by3 Tryd.tysOk [5, 4] (fun (k : Nat) (i : Int) (P : Option Addr × Nat × List UInt8) => [.int .i64 i, .slice P.1 P.2.2.length P.2.1]) (fun k i P => own u8E 5 P.1 P.2.1 P.2.2 :: L) (fun k i P => (i = 2 * k ∧ 2 * k ≤ s.size) ∧ (P.2.2 = rpairs s k ∧ P.2.2.length ≤ P.2.1 ∧ Ad P.1 P.2.2.length)) (fun k i P => s.size - 2 * k) (0) (0) (((some ⟨b10, 0, none⟩, 0, []) : Option Addr × Nat × List UInt8)) (by kernel_rfl) (by (refine FEnt.ent ?_; (repeat (first | exact FEnt.rfl | (refine FEnt.own0 0 rfl ?_; (try simp only [List.eraseIdx_cons_zero, List.eraseIdx_cons_succ, List.eraseIdx_zero, List.tail_cons])))); done)) (⟨⟨by omega, by omega⟩, ⟨rfl, by simp, fun _ => rfl⟩⟩) ?_
    rintro k i ⟨a, c, ys⟩ ⟨⟨g0, g1⟩, g2, g3, g4⟩
    conv => whnf
    repeat (intro _; conv => whnf)
    dsimp only at g2 g3 g4
    have hyl : ys.length = k := by rw [g2, rpairs_len]
    obtain rfl : i = ((2 * k : Nat) : Int) := by omega
    by_cases hk : 2 * k + 1 < s.size
    · have hu := u8_lt (sAt s (2 * k))
      have hu2 := u8_lt (sAt s (2 * k + 1))
      have b1 := halfV_bd (sAt s (2 * k)).toNat
      have b2 := halfV_bd (sAt s (2 * k + 1)).toNat
      conv => whnf
      repeat' (first
        | ((with_reducible refine Br.dt ?_ ?_); (focus (first | assumption | omega)); conv => whnf)
        | ((with_reducible refine Ar.i64 ?_ ?_); (focus omega); conv => whnf))
      conv => whnf
      refine Lp.by2 Tryd.tysOk [7, 6] (fun (j : Nat) (n : Int) => [.int .i64 j, .int .i64 n]) (fun j n => own u8E 5 a c ys :: L) (fun j n => j ≤ 16 ∧ n = 16 * upto (halfV (sAt s (2 * k)).toNat) j + upto (halfV (sAt s (2 * k + 1)).toNat) j) (fun j n => 16 - j) (0) (0) (by kernel_rfl) (by (exact Ent.rfl)) (⟨by omega, by unfold upto; rw [if_neg (by omega), if_neg (by omega)]; rfl⟩) ?_
      rintro j n ⟨q1, q2⟩
      conv => whnf
      repeat (intro _; conv => whnf)
      by_cases hj : j < 16
      · have aj := all_at hj
        change ((sAt (⟨#[48, 49, 50, 51, 52, 53, 54, 55, 56, 57, 97, 98, 99, 100, 101, 102]⟩ : ByteArray) j).toNat : Int) = dgI j at aj
        have i1 := half_iff (x := ((sAt s (2 * k)).toNat : Int)) (by omega) hj
        have i2 := half_iff (x := ((sAt s (2 * k + 1)).toNat : Int)) (by omega) hj
        rw [← aj] at i1 i2
        have st : ∀ c : Int, upto c ((j + 1 : Nat) : Int) = upto c j + (if c = j then (j : Int) else 0) := fun c => by
          unfold upto
          by_cases h1 : c < (j : Int)
          · rw [if_pos h1, if_pos (by omega), if_neg (by omega)]; omega
          · by_cases h2 : c = (j : Int)
            · rw [if_neg h1, if_pos (by omega), if_pos h2]; omega
            · rw [if_neg h1, if_neg (by omega), if_neg h2]; omega
        have s1 := st (halfV (sAt s (2 * k)).toNat)
        have s2 := st (halfV (sAt s (2 * k + 1)).toNat)
        have u1 : 0 ≤ upto (halfV (sAt s (2 * k)).toNat) j ∧ upto (halfV (sAt s (2 * k)).toNat) j ≤ 16 := by unfold upto; split <;> omega
        have u2 : 0 ≤ upto (halfV (sAt s (2 * k + 1)).toNat) j ∧ upto (halfV (sAt s (2 * k + 1)).toNat) j ≤ 16 := by unfold upto; split <;> omega
        have at2 : (sAt s (Int.toNat (((2 * k : Nat) : Int) + 1))) = sAt s (2 * k + 1) := rfl
        clear st g2 aj
        by_cases e1 : halfV (sAt s (2 * k)).toNat = j
        · have f1 := i1.2 e1
          rw [if_pos e1] at s1
          by_cases e2 : halfV (sAt s (2 * k + 1)).toNat = j
          · have f2 := i2.2 e2
            rw [if_pos e2] at s2
            clear i1 i2
            conv => whnf
            repeat' (first
              | ((with_reducible refine Br.dt ?_ ?_); (focus (first | assumption | omega)); conv => whnf)
              | ((with_reducible refine Ar.i64 ?_ ?_); (focus omega); conv => whnf)
              | ((with_reducible refine SIx.nat ?_ ?_); (focus (omega)); conv => whnf)
              | ((with_reducible refine SIx.mk' ?_ ?_); (focus (omega)); conv => whnf)
              | ((with_reducible refine Dr.by (id := 12) Tryd.tysOk rfl [(0, 0), (1, 0), (2, 0), (3, 0), (4, 0), (5, 0), (6, 0)] ?_ ?_); (focus kernel_rfl); conv => whnf)
              | ((with_reducible refine Dr.by (id := 14) Tryd.tysOk rfl [(0, 0), (1, 0), (2, 0), (3, 0), (4, 0), (5, 0), (6, 0), (7, 0)] ?_ ?_); (focus kernel_rfl); conv => whnf)
              | ((rw [at2]); conv => whnf))
            all_goals first | (exfalso; omega) | exact ⟨j + 1, n + 16 * (j : Int) + j, by kernel_rfl, by (exact Ent.rfl), ⟨by omega, by omega⟩, by omega⟩
          · have f2 : ¬ _ := fun h => e2 (i2.1 h)
            rw [if_neg e2] at s2
            clear i1 i2
            conv => whnf
            repeat' (first
              | (first | ((with_reducible refine Br.dt ?_ ?_); (focus (first | assumption | omega)); conv => whnf) | ((with_reducible refine Br.df ?_ ?_); (focus (first | assumption | omega)); conv => whnf))
              | ((with_reducible refine Ar.i64 ?_ ?_); (focus omega); conv => whnf)
              | ((with_reducible refine SIx.nat ?_ ?_); (focus (omega)); conv => whnf)
              | ((with_reducible refine SIx.mk' ?_ ?_); (focus (omega)); conv => whnf)
              | ((with_reducible refine Dr.by (id := 12) Tryd.tysOk rfl [(0, 0), (1, 0), (2, 0), (3, 0), (4, 0), (5, 0), (6, 0)] ?_ ?_); (focus kernel_rfl); conv => whnf)
              | ((with_reducible refine Dr.by (id := 14) Tryd.tysOk rfl [(0, 0), (1, 0), (2, 0), (3, 0), (4, 0), (5, 0), (6, 0), (7, 0)] ?_ ?_); (focus kernel_rfl); conv => whnf)
              | ((rw [at2]); conv => whnf))
            all_goals first | (exfalso; omega) | exact ⟨j + 1, n + 16 * (j : Int), by kernel_rfl, by (exact Ent.rfl), ⟨by omega, by omega⟩, by omega⟩
        · have f1 : ¬ _ := fun h => e1 (i1.1 h)
          rw [if_neg e1] at s1
          by_cases e2 : halfV (sAt s (2 * k + 1)).toNat = j
          · have f2 := i2.2 e2
            rw [if_pos e2] at s2
            clear i1 i2
            conv => whnf
            repeat' (first
              | (first | ((with_reducible refine Br.dt ?_ ?_); (focus (first | assumption | omega)); conv => whnf) | ((with_reducible refine Br.df ?_ ?_); (focus (first | assumption | omega)); conv => whnf))
              | ((with_reducible refine Ar.i64 ?_ ?_); (focus omega); conv => whnf)
              | ((with_reducible refine SIx.nat ?_ ?_); (focus (omega)); conv => whnf)
              | ((with_reducible refine SIx.mk' ?_ ?_); (focus (omega)); conv => whnf)
              | ((with_reducible refine Dr.by (id := 12) Tryd.tysOk rfl [(0, 0), (1, 0), (2, 0), (3, 0), (4, 0), (5, 0), (6, 0)] ?_ ?_); (focus kernel_rfl); conv => whnf)
              | ((with_reducible refine Dr.by (id := 14) Tryd.tysOk rfl [(0, 0), (1, 0), (2, 0), (3, 0), (4, 0), (5, 0), (6, 0), (7, 0)] ?_ ?_); (focus kernel_rfl); conv => whnf)
              | ((rw [at2]); conv => whnf))
            all_goals first | (exfalso; omega) | exact ⟨j + 1, n + j, by kernel_rfl, by (exact Ent.rfl), ⟨by omega, by omega⟩, by omega⟩
          · have f2 : ¬ _ := fun h => e2 (i2.1 h)
            rw [if_neg e2] at s2
            clear i1 i2
            conv => whnf
            repeat' (first
              | (first | ((with_reducible refine Br.dt ?_ ?_); (focus (first | assumption | omega)); conv => whnf) | ((with_reducible refine Br.df ?_ ?_); (focus (first | assumption | omega)); conv => whnf))
              | ((with_reducible refine Ar.i64 ?_ ?_); (focus omega); conv => whnf)
              | ((with_reducible refine SIx.nat ?_ ?_); (focus (omega)); conv => whnf)
              | ((with_reducible refine SIx.mk' ?_ ?_); (focus (omega)); conv => whnf)
              | ((with_reducible refine Dr.by (id := 12) Tryd.tysOk rfl [(0, 0), (1, 0), (2, 0), (3, 0), (4, 0), (5, 0), (6, 0)] ?_ ?_); (focus kernel_rfl); conv => whnf)
              | ((with_reducible refine Dr.by (id := 14) Tryd.tysOk rfl [(0, 0), (1, 0), (2, 0), (3, 0), (4, 0), (5, 0), (6, 0), (7, 0)] ?_ ?_); (focus kernel_rfl); conv => whnf)
              | ((rw [at2]); conv => whnf))
            all_goals first | (exfalso; omega) | exact ⟨j + 1, n, by kernel_rfl, by (exact Ent.rfl), ⟨by omega, by omega⟩, by omega⟩
      · obtain rfl : j = 16 := by omega
        have v1 : upto (halfV (sAt s (2 * k)).toNat) ((16 : Nat) : Int) = hr s (2 * k) := by
          unfold upto hr
          by_cases h : halfV (sAt s (2 * k)).toNat ≤ 15
          · rw [if_pos (by omega), if_pos h]
          · rw [if_neg (by omega), if_neg h]
        have v2 : upto (halfV (sAt s (2 * k + 1)).toNat) ((16 : Nat) : Int) = hr s (2 * k + 1) := by
          unfold upto hr
          by_cases h : halfV (sAt s (2 * k + 1)).toNat ≤ 15
          · rw [if_pos (by omega), if_pos h]
          · rw [if_neg (by omega), if_neg h]
        rw [v1, v2] at q2
        have w1 : 0 ≤ hr s (2 * k) ∧ hr s (2 * k) ≤ 15 := by
          unfold hr
          by_cases h : hv s (2 * k) ≤ 15
          · rw [if_pos h]; exact ⟨b1.1, h⟩
          · rw [if_neg h]; omega
        have w2 : 0 ≤ hr s (2 * k + 1) ∧ hr s (2 * k + 1) ≤ 15 := by
          unfold hr
          by_cases h : hv s (2 * k + 1) ≤ 15
          · rw [if_pos h]; exact ⟨b2.1, h⟩
          · rw [if_neg h]; omega
        have hsn : ys ++ [u8of n] = rpairs s (k + 1) := by rw [g2, q2]; rfl
        clear g2 v1 v2
        conv => whnf
        repeat' (first
          | ((with_reducible refine Br.df ?_ ?_); (focus (first | assumption | omega)); conv => whnf)
          | (first | ((with_reducible refine Ar.u8b ?_); conv => whnf) | ((with_reducible refine Ar.i64 ?_ ?_); (focus omega); conv => whnf))
          | ((with_reducible refine Nc.go' (fun _ => ?_)); conv => whnf)
          | ((with_reducible refine (?_ : Sm _ (Builtin.append_ _ _ _) _ _)); (((with_reducible apply (Sm.appAt (E := u8E) (et := 5) Tryd.tysOk 1)); (focus rfl)); (rotate_left; (focus (exact Rd.ptc 0 rfl [_] rfl)); rotate_right; (focus rfl)); (focus rfl); (focus rfl); (focus rfl); (focus rfl); (focus rfl); (focus rfl); (focus ((simp only [List.length_append, List.length_cons, List.length_nil]); omega)); (intro _ _ _ _); conv => whnf)))
        all_goals try (exfalso; omega)
        rename_i a5 c5 hc5 had5
        exact ⟨k + 1, ((2 * k : Nat) : Int) + 2, (a5, c5, ys ++ [u8of n]), by kernel_rfl, by (try dsimp only); (refine FEnt.ent ?_; (repeat (first | exact FEnt.rfl | (refine FEnt.at 0 rfl ?_; (try simp only [List.eraseIdx_cons_zero, List.eraseIdx_cons_succ, List.eraseIdx_zero, List.tail_cons])) | refine FEnt.drop ?_)); done), ⟨by omega, hsn, hc5, had5⟩, by omega⟩
    · have e : k = s.size / 2 := by omega
      subst e
      subst g2
      conv => whnf
      repeat' (first
        | ((with_reducible refine Br.df ?_ ?_); (focus (first | assumption | omega)); conv => whnf)
        | ((with_reducible refine Ar.i64 ?_ ?_); (focus omega); conv => whnf)
        | ((with_reducible refine (?_ : Sm _ (convert _ _ _) _ _)); ((apply (Sm.b2s Tryd.tysOk)); ((focus rfl); (focus ((repeat ((refine Rd.own 0 rfl ?_); (assumption))); done))); (focus rfl); (focus rfl); (focus rfl); (focus rfl); (focus rfl); (focus rfl); conv => whnf)))
      all_goals first | (refine Is.ent ?_ ?_; (focus (refine FEnt.ent ?_; (repeat (first | exact FEnt.rfl | refine FEnt.drop ?_)); done)); (exact Is.rfl)) | (exfalso; omega)
theorem rdat_hex (d : ByteArray) : rdatF (bsL (hexF d)) = d := by
  have h := dat_hex d
  have h2 := h.2
  unfold rdatF
  unfold datF at h2
  by_cases h1 : bsL (hexF d) = dashB
  · rw [if_pos h1] at h2 ⊢
    exact h2
  · rw [if_neg h1] at h2 ⊢
    have hok : DataOk (bsL (hexF d)) := h.1.resolve_left h1
    rw [if_pos hok] at h2
    rw [rpairs_eq hok.all _ (by omega)]
    exact h2
theorem rdat_len (s : ByteArray) : (rdatF s).size ≤ s.size := by
  unfold rdatF
  split
  · exact Nat.zero_le _
  · rw [bsL_size, rpairs_len]; omega
/-! the document's mark of a line -/
noncomputable def rfM (l : List UInt8) : Mrk := ⟨rnumF (wd l 0), sortF (wd l 1), rnumF (wd l 2), rnumF (wd l 3), rnumF (wd l 4), rdatF (wd l 5)⟩
noncomputable def rfV (l : List UInt8) : Mrk := if (wds l).length = 6 then rfM l else ⟨0, 0, 0, 0, 0, ⟨#[]⟩⟩
theorem rfM_line {m : Mrk} (hm : MayM m) : rfM (joinF m) = m := by
  have hw := wds_line hm
  unfold rfM wd
  rw [hw]
  show Mrk.mk (rnumF (bsL (Lib.itoa m.t))) (sortF (nameF m.s)) (rnumF (bsL (Lib.itoa m.a))) (rnumF (bsL (Lib.itoa m.b))) (rnumF (bsL (Lib.itoa m.n))) (rdatF (bsL (hexF m.d))) = m
  rw [rnum_dec hm.t, rnum_dec hm.a, rnum_dec hm.b, rnum_dec hm.n, sort_name hm.s, rdat_hex]
theorem rfV_ok {l : List UInt8} (h : rdOk l) : rfV l = rdM l := by
  obtain ⟨m, hm, rfl⟩ := (rd_iff l).1 h
  unfold rfV
  rw [if_pos h.1, rfM_line hm, (rd_line hm).1]
theorem rf_iff {l : List UInt8} (h6 : (wds l).length = 6) : rdOk l ↔ MayM (rfM l) ∧ joinF (rfM l) = l := by
  constructor
  · intro h
    obtain ⟨m, hm, rfl⟩ := (rd_iff l).1 h
    rw [rfM_line hm]
    exact ⟨hm, rfl⟩
  · rintro ⟨h1, h2⟩
    exact (rd_iff l).2 ⟨_, h1, h2⟩
theorem rfM_B (l : List UInt8) : MrB (rfM l) := by
  have h5 := sortF_P (wd l 1)
  exact ⟨rnum_P _, by show _ ≤ sortF _ ∧ sortF _ ≤ _; omega, rnum_P _, rnum_P _, rnum_P _⟩
end Go.Proofs
