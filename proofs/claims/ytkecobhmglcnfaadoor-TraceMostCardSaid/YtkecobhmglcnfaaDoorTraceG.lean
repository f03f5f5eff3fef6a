/- Words as numbers and bytes: contracts. -/
import Derived.Test.YtkecobhmglcnfaaDoorTraceF
import Derived.Test.YtkecobhmglcnfaaDoorLibB
import Derived.Test.YtkecobhmglcnfaaDoorSplit
set_option linter.all false
namespace Go.Proofs
open Go.Eng
open Classical
set_option linter.unusedVariables false
set_option maxRecDepth 100000
set_option maxHeartbeats 4000000
/-- a word's number -/
def numV (l : List UInt8) : Int := l.foldl (fun n x => 10 * n + ((x.toNat : Int) - 48)) 0
theorem numV_snoc (l : List UInt8) (x : UInt8) : numV (l ++ [x]) = 10 * numV l + ((x.toNat : Int) - 48) := by simp [numV, List.foldl_append]
abbrev isDig (x : UInt8) : Prop := 48 ≤ x.toNat ∧ x.toNat ≤ 57
theorem numV_take {s : ByteArray} {k : Nat} (hk : k < s.size) : numV (s.data.toList.take (k + 1)) = 10 * numV (s.data.toList.take k) + (((sAt s k).toNat : Int) - 48) := by
  rw [List.take_add_one, List.getElem?_eq_getElem (by rw [size_list]; exact hk)]
  have e : sAt s k = s.data.toList[k]'(by rw [size_list]; exact hk) := by
    have hk2 : k < s.data.toList.length := by rw [size_list]; exact hk
    show s.data.toList.getD k 0 = _
    rw [List.getD_eq_getElem?_getD, List.getElem?_eq_getElem hk2]
    rfl
  rw [e]
  exact numV_snoc _ _
def pw (k : Nat) : Int := 10 ^ k
theorem pw_s (k : Nat) : pw (k + 1) = 10 * pw k := by unfold pw; rw [Int.pow_succ]; omega
theorem pw_le {k : Nat} (h : k ≤ 9) : pw k ≤ 1000000000 := by
  have key : ∀ i : Fin 10, pw i.val ≤ 1000000000 := by decide
  exact key ⟨k, by omega⟩
structure NumOk (s : ByteArray) : Prop where
  ne : 1 ≤ s.size
  le : s.size ≤ 10
  lead : 2 ≤ s.size → (sAt s 0).toNat ≠ 48
  dig : ∀ i, i < s.size → isDig (sAt s i)
  most : numV s.data.toList ≤ 2147483647
noncomputable def numF (s : ByteArray) : Int := if NumOk s then numV s.data.toList else -1
theorem Tryd.trcNumber (s : ByteArray) (L : List HP) (hs : s.size ≤ 1000000000) : Con Tryd.prog 57 [.string s] L (Is (z64 (numF s)) L) := by
  have hr := fun n L => Tryd.trcRight n L
  have hsl := size_list s
  by_cases h1 : 1 ≤ s.size ∧ s.size ≤ 10 ∧ (2 ≤ s.size → (sAt s 0).toNat ≠ 48)
  · obtain ⟨h1, h2, h3⟩ := h1
    have hne : ¬ s = ⟨#[]⟩ := fun e => by subst e; exact absurd h1 (by decide)
    have hu0 := u8_lt (sAt s 0)
    refine con_of Tryd.tysOk Tryd.func57 rfl rfl ?_
    conv => whnf
    repeat' (first
      | (first | ((with_reducible refine Br.tt ?_); conv => whnf) | ((with_reducible refine Br.ff ?_); conv => whnf) | ((with_reducible refine Br.df ?_ ?_); (focus (first | assumption | omega)); conv => whnf) | ((with_reducible refine Br.no ?_ ?_); (focus (first | (simp; done) | (simp; omega))); conv => whnf))
      | ((with_reducible refine SIx.mk' ?_ ?_); (focus (omega)); conv => whnf)
      | ((with_reducible refine Br.ds (fun _ => ?_) (fun _ => ?_) ) <;> (conv => whnf)))
    · skip
      conv => whnf
      refine Lp.by2 Tryd.tysOk [24, 3] (fun (k : Nat) (n : Int) => [.int .i64 k, .int .i64 n]) (fun k n => L) (fun k n => k ≤ s.size ∧ n = numV (s.data.toList.take k) ∧ (∀ i, i < k → isDig (sAt s i)) ∧ 0 ≤ n ∧ n + 1 ≤ pw k) (fun k n => s.size - k) (0) (0) (by kernel_rfl) (by (exact Ent.rfl)) (⟨by omega, rfl, fun i hi => by omega, by omega, by decide⟩) ?_
      rintro k n ⟨g1, g2, g3, g4, g5⟩
      conv => whnf
      repeat (intro _; conv => whnf)
      by_cases hk : k < s.size
      · have hu := u8_lt (sAt s k)
        have hp := pw_le (k := k) (by omega)
        by_cases hd : isDig (sAt s k)
        · have e := numV_take hk
          rw [← g2] at e
          have hp2 := pw_s k
          obtain ⟨d1, d2⟩ := hd
          have hd : isDig (sAt s k) := ⟨d1, d2⟩
          have g3' := lt_step g3 hd
          clear g2 g3 hd
          have q1 : ((u8of (((sAt s k).toNat : Int) - 48)).toNat : Int) = ((sAt s k).toNat : Int) - 48 := by rw [u8of_int]; omega
          conv => whnf
          repeat' (first
            | (first | ((with_reducible refine Br.ff ?_); conv => whnf) | ((with_reducible refine Br.dt ?_ ?_); (focus (first | assumption | omega)); conv => whnf) | ((with_reducible refine Br.df ?_ ?_); (focus (first | assumption | omega)); conv => whnf))
            | (first | ((with_reducible refine Ar.u8b ?_); conv => whnf) | ((with_reducible refine Ar.i64b ?_); conv => whnf) | ((with_reducible refine Ar.i64 ?_ ?_); (focus omega); conv => whnf))
            | ((with_reducible refine SIx.nat ?_ ?_); (focus (omega)); conv => whnf)
            | ((rw [q1]); conv => whnf))
          all_goals first | (exfalso; omega) | exact ⟨k + 1, 10 * n + (((sAt s k).toNat : Int) - 48), by kernel_rfl, by (exact Ent.rfl), ⟨by omega, e.symm, g3', by omega, by omega⟩, by omega⟩
        · have hno : numF s = -1 := by
            unfold numF
            rw [if_neg (fun h => hd (h.dig k hk))]
          have hd2 : (sAt s k).toNat < 48 ∨ 57 < (sAt s k).toNat := by
            rcases Nat.lt_or_ge (sAt s k).toNat 48 with h | h
            · exact .inl h
            · exact .inr (Nat.lt_of_not_le fun h' => hd ⟨h, h'⟩)
          rw [hno]
          clear g2 g3 hd
          conv => whnf
          repeat' (first
            | (first | ((with_reducible refine Br.tt ?_); conv => whnf) | ((with_reducible refine Br.ff ?_); conv => whnf) | ((with_reducible refine Br.dt ?_ ?_); (focus (first | assumption | omega)); conv => whnf))
            | ((with_reducible refine SIx.nat ?_ ?_); (focus (omega)); conv => whnf)
            | ((with_reducible refine Br.ds (fun _ => ?_) (fun _ => ?_) ) <;> (conv => whnf)))
          all_goals first | (refine Is.ent ?_ ?_; (focus (exact Ent.rfl)); (exact Is.rfl)) | (exfalso; omega)
      · have e0 : k = s.size := by omega
        subst e0
        rw [← hsl, List.take_length] at g2
        by_cases hm : numP n
        · have hyes : numF s = n := by
            unfold numF
            rw [if_pos ⟨h1, h2, h3, g3, by rw [← g2]; exact hm.2⟩, g2]
          rw [hyes]
          have hr := fun L => Con.dt hm (hr n L)
          clear g2 g3
          conv => whnf
          repeat' (first
            | (first | ((with_reducible refine Br.nt ?_); conv => whnf) | ((with_reducible refine Br.df ?_ ?_); (focus (first | assumption | omega)); conv => whnf))
            | ((with_reducible refine Cl.is (hr _) ?_); conv => whnf))
          all_goals first | (refine Is.ent ?_ ?_; (focus (exact Ent.rfl)); (exact Is.rfl)) | (exfalso; omega)
        · have hno : numF s = -1 := by
            unfold numF
            rw [if_neg (fun h => hm ⟨g4, by rw [g2]; exact h.most⟩)]
          rw [hno]
          have hr := fun L => Con.df hm (hr n L)
          clear g2 g3
          conv => whnf
          repeat' (first
            | (first | ((with_reducible refine Br.nf ?_); conv => whnf) | ((with_reducible refine Br.df ?_ ?_); (focus (first | assumption | omega)); conv => whnf))
            | ((with_reducible refine Cl.is (hr _) ?_); conv => whnf))
          all_goals first | (refine Is.ent ?_ ?_; (focus (exact Ent.rfl)); (exact Is.rfl)) | (exfalso; omega)
    · skip
      conv => whnf
      refine Lp.by2 Tryd.tysOk [24, 3] (fun (k : Nat) (n : Int) => [.int .i64 k, .int .i64 n]) (fun k n => L) (fun k n => k ≤ s.size ∧ n = numV (s.data.toList.take k) ∧ (∀ i, i < k → isDig (sAt s i)) ∧ 0 ≤ n ∧ n + 1 ≤ pw k) (fun k n => s.size - k) (0) (0) (by kernel_rfl) (by (exact Ent.rfl)) (⟨by omega, rfl, fun i hi => by omega, by omega, by decide⟩) ?_
      rintro k n ⟨g1, g2, g3, g4, g5⟩
      conv => whnf
      repeat (intro _; conv => whnf)
      by_cases hk : k < s.size
      · have hu := u8_lt (sAt s k)
        have hp := pw_le (k := k) (by omega)
        by_cases hd : isDig (sAt s k)
        · have e := numV_take hk
          rw [← g2] at e
          have hp2 := pw_s k
          obtain ⟨d1, d2⟩ := hd
          have hd : isDig (sAt s k) := ⟨d1, d2⟩
          have g3' := lt_step g3 hd
          clear g2 g3 hd
          have q1 : ((u8of (((sAt s k).toNat : Int) - 48)).toNat : Int) = ((sAt s k).toNat : Int) - 48 := by rw [u8of_int]; omega
          conv => whnf
          repeat' (first
            | (first | ((with_reducible refine Br.ff ?_); conv => whnf) | ((with_reducible refine Br.dt ?_ ?_); (focus (first | assumption | omega)); conv => whnf) | ((with_reducible refine Br.df ?_ ?_); (focus (first | assumption | omega)); conv => whnf))
            | (first | ((with_reducible refine Ar.u8b ?_); conv => whnf) | ((with_reducible refine Ar.i64b ?_); conv => whnf) | ((with_reducible refine Ar.i64 ?_ ?_); (focus omega); conv => whnf))
            | ((with_reducible refine SIx.nat ?_ ?_); (focus (omega)); conv => whnf)
            | ((rw [q1]); conv => whnf))
          all_goals first | (exfalso; omega) | exact ⟨k + 1, 10 * n + (((sAt s k).toNat : Int) - 48), by kernel_rfl, by (exact Ent.rfl), ⟨by omega, e.symm, g3', by omega, by omega⟩, by omega⟩
        · have hno : numF s = -1 := by
            unfold numF
            rw [if_neg (fun h => hd (h.dig k hk))]
          have hd2 : (sAt s k).toNat < 48 ∨ 57 < (sAt s k).toNat := by
            rcases Nat.lt_or_ge (sAt s k).toNat 48 with h | h
            · exact .inl h
            · exact .inr (Nat.lt_of_not_le fun h' => hd ⟨h, h'⟩)
          rw [hno]
          clear g2 g3 hd
          conv => whnf
          repeat' (first
            | (first | ((with_reducible refine Br.tt ?_); conv => whnf) | ((with_reducible refine Br.ff ?_); conv => whnf) | ((with_reducible refine Br.dt ?_ ?_); (focus (first | assumption | omega)); conv => whnf))
            | ((with_reducible refine SIx.nat ?_ ?_); (focus (omega)); conv => whnf)
            | ((with_reducible refine Br.ds (fun _ => ?_) (fun _ => ?_) ) <;> (conv => whnf)))
          all_goals first | (refine Is.ent ?_ ?_; (focus (exact Ent.rfl)); (exact Is.rfl)) | (exfalso; omega)
      · have e0 : k = s.size := by omega
        subst e0
        rw [← hsl, List.take_length] at g2
        by_cases hm : numP n
        · have hyes : numF s = n := by
            unfold numF
            rw [if_pos ⟨h1, h2, h3, g3, by rw [← g2]; exact hm.2⟩, g2]
          rw [hyes]
          have hr := fun L => Con.dt hm (hr n L)
          clear g2 g3
          conv => whnf
          repeat' (first
            | (first | ((with_reducible refine Br.nt ?_); conv => whnf) | ((with_reducible refine Br.df ?_ ?_); (focus (first | assumption | omega)); conv => whnf))
            | ((with_reducible refine Cl.is (hr _) ?_); conv => whnf))
          all_goals first | (refine Is.ent ?_ ?_; (focus (exact Ent.rfl)); (exact Is.rfl)) | (exfalso; omega)
        · have hno : numF s = -1 := by
            unfold numF
            rw [if_neg (fun h => hm ⟨g4, by rw [g2]; exact h.most⟩)]
          rw [hno]
          have hr := fun L => Con.df hm (hr n L)
          clear g2 g3
          conv => whnf
          repeat' (first
            | (first | ((with_reducible refine Br.nf ?_); conv => whnf) | ((with_reducible refine Br.df ?_ ?_); (focus (first | assumption | omega)); conv => whnf))
            | ((with_reducible refine Cl.is (hr _) ?_); conv => whnf))
          all_goals first | (refine Is.ent ?_ ?_; (focus (exact Ent.rfl)); (exact Is.rfl)) | (exfalso; omega)
  · have hno : numF s = -1 := by
      unfold numF
      rw [if_neg (fun h => h1 ⟨h.ne, h.le, h.lead⟩)]
    rw [hno]
    by_cases h0 : s.size = 0
    · have := size_zero h0
      subst this
      refine con_of Tryd.tysOk Tryd.func57 rfl rfl ?_
      conv => whnf
      repeat' (first | ((with_reducible refine Br.tt ?_); conv => whnf) | ((with_reducible refine Br.yes ?_ ?_); (focus (first | (simp; done) | (simp; omega))); conv => whnf))
      all_goals first | (refine Is.ent ?_ ?_; (focus (exact Ent.rfl)); (exact Is.rfl)) | (exfalso; omega)
    · have hne : ¬ s = ⟨#[]⟩ := fun e => h0 (by rw [e]; rfl)
      have h4 : 10 < s.size ∨ (2 ≤ s.size ∧ s.size ≤ 10 ∧ (sAt s 0).toNat = 48) := by
        rcases Nat.lt_or_ge 10 s.size with h | h
        · exact .inl h
        · refine .inr (Classical.byContradiction fun hc => h1 ⟨by omega, h, fun h2 h3 => hc ⟨h2, h, h3⟩⟩)
      clear h1
      rcases h4 with h4 | ⟨h4, h5, h6⟩
      · refine con_of Tryd.tysOk Tryd.func57 rfl rfl ?_
        conv => whnf
        repeat' (first | ((with_reducible refine Br.tt ?_); conv => whnf) | ((with_reducible refine Br.ff ?_); conv => whnf) | ((with_reducible refine Br.dt ?_ ?_); (focus (first | assumption | omega)); conv => whnf) | ((with_reducible refine Br.df ?_ ?_); (focus (first | assumption | omega)); conv => whnf))
        all_goals first | (refine Is.ent ?_ ?_; (focus (exact Ent.rfl)); (exact Is.rfl)) | (exfalso; omega)
      · refine con_of Tryd.tysOk Tryd.func57 rfl rfl ?_
        conv => whnf
        repeat' (first
          | (first | ((with_reducible refine Br.tt ?_); conv => whnf) | ((with_reducible refine Br.ff ?_); conv => whnf) | ((with_reducible refine Br.dt ?_ ?_); (focus (first | assumption | omega)); conv => whnf) | ((with_reducible refine Br.df ?_ ?_); (focus (first | assumption | omega)); conv => whnf) | ((with_reducible refine Br.yes ?_ ?_); (focus (first | (simp; done) | (simp; omega))); conv => whnf))
          | ((with_reducible refine SIx.mk' ?_ ?_); (focus (omega)); conv => whnf))
        all_goals first | (refine Is.ent ?_ ?_; (focus (exact Ent.rfl)); (exact Is.rfl)) | (exfalso; omega)
/-- a hex digit's number -/
def halfV (n : Int) : Int := if 48 ≤ n ∧ n ≤ 57 then n - 48 else if 97 ≤ n ∧ n ≤ 102 then n - 87 else 16
theorem Tryd.trcHalf (n : Int) (L : List HP) (h : 0 ≤ n ∧ n ≤ 255) : Con Tryd.prog 66 [z8 n] L (Is (z8 (halfV n)) L) := by
  unfold halfV
  by_cases h1 : 48 ≤ n ∧ n ≤ 57
  · rw [if_pos h1]
    refine con_of Tryd.tysOk Tryd.func66 rfl rfl ?_
    conv => whnf
    repeat' (first
      | (first | ((with_reducible refine Br.tt ?_); conv => whnf) | ((with_reducible refine Br.dt ?_ ?_); (focus (first | assumption | omega)); conv => whnf))
      | ((with_reducible refine Ar.u8b ?_); conv => whnf))
    all_goals first | (exfalso; omega) | exact Is.ent (by (exact Ent.rfl)) (Is.val (by simp only [u8of_int]; congr 1; omega))
  · rw [if_neg h1]
    by_cases h2 : 97 ≤ n ∧ n ≤ 102
    · rw [if_pos h2]
      refine con_of Tryd.tysOk Tryd.func66 rfl rfl ?_
      conv => whnf
      repeat' (first
        | (first | ((with_reducible refine Br.tt ?_); conv => whnf) | ((with_reducible refine Br.dt ?_ ?_); (focus (first | assumption | omega)); conv => whnf) | ((with_reducible refine Br.df ?_ ?_); (focus (first | assumption | omega)); conv => whnf))
        | ((with_reducible refine Ar.u8b ?_); conv => whnf))
      all_goals first | (exfalso; omega) | exact Is.ent (by (exact Ent.rfl)) (Is.val (by simp only [u8of_int]; congr 1; omega))
    · rw [if_neg h2]
      refine con_of Tryd.tysOk Tryd.func66 rfl rfl ?_
      conv => whnf
      repeat' (first
        | (first | ((with_reducible refine Br.tt ?_); conv => whnf) | ((with_reducible refine Br.ff ?_); conv => whnf) | ((with_reducible refine Br.df ?_ ?_); (focus (first | assumption | omega)); conv => whnf))
        | ((with_reducible refine Br.ds (fun _ => ?_) (fun _ => ?_) ) <;> (conv => whnf)))
      all_goals first | (exfalso; omega) | (refine Is.ent ?_ ?_; (focus (exact Ent.rfl)); (exact Is.rfl))
end Go.Proofs
