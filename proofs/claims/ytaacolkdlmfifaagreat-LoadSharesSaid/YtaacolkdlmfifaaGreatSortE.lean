/- The library's stable sort of spans, and what is sorted. -/
import Derived.Test.YtaacolkdlmfifaaGreatSortD
set_option linter.all false
namespace Go.Proofs
open Go.Eng
set_option linter.unusedVariables false
set_option maxRecDepth 100000

/-- full sorted rows of b each -/
inductive Full (b : Nat) : List Sp → Prop
  | nil : Full b []
  | snoc {D A : List Sp} : Full b D → A.length = b → Srt A → Full b (D ++ A)
/-- full sorted rows, and a last one -/
inductive Rows (b : Nat) : List Sp → Prop
  | last {A : List Sp} : A.length ≤ b → Srt A → Rows b A
  | cons {A R : List Sp} : A.length = b → Srt A → Rows b R → Rows b (A ++ R)
theorem Full.rows {b : Nat} {D : List Sp} (h : Full b D) : ∀ {R}, Rows b R → Rows b (D ++ R) := by
  induction h with
  | nil => exact fun h => h
  | snoc _ hl hs ih => intro R hR; rw [List.append_assoc]; exact ih (.cons hl hs hR)
theorem Rows.two {b : Nat} {R : List Sp} (hb : 0 < b) (h : Rows b R) (hl : 2 * b ≤ R.length) : ∃ A B R', R = A ++ B ++ R' ∧ A.length = b ∧ B.length = b ∧ Srt A ∧ Srt B ∧ Rows b R' := by
  cases h with
  | last h1 h2 => omega
  | @cons A R h1 h2 h3 =>
    cases h3 with
    | @last A' g1 g2 =>
      rw [List.length_append] at hl
      exact ⟨A, R, [], by simp, h1, by omega, h2, g2, .last (Nat.zero_le _) List.Pairwise.nil⟩
    | @cons B R' g1 g2 g3 => exact ⟨A, B, R', by simp, h1, g1, h2, g2, g3⟩
theorem Rows.one {b : Nat} {R : List Sp} (hb : 0 < b) (h : Rows b R) (hl : R.length < 2 * b) (h0 : b < R.length) : ∃ A B, R = A ++ B ∧ A.length = b ∧ B.length ≤ b ∧ Srt A ∧ Srt B := by
  cases h with
  | last h1 h2 => omega
  | @cons A R h1 h2 h3 =>
    cases h3 with
    | @last A' g1 g2 => exact ⟨A, R, rfl, h1, g1, h2, g2⟩
    | @cons B R' g1 g2 g3 => rw [List.length_append, List.length_append] at hl; omega
theorem Rows.srt {b : Nat} {R : List Sp} (h : Rows b R) (hl : R.length ≤ b) : Srt R := by
  cases h with
  | last h1 h2 => exact h2
  | @cons A R h1 h2 h3 =>
    rw [List.length_append] at hl
    have : R = [] := List.eq_nil_of_length_eq_zero (by omega)
    rw [this, List.append_nil]; exact h2

abbrev Sorted (xs ys : List Sp) : Prop := ys.Perm xs ∧ Srt ys
set_option maxHeartbeats 4000000 in
theorem Tryz.stable (a : Option Addr) (c : Nat) (xs : List Sp) (L : List HP) (t : TypeId) (n : Nat) (m : Int) (hn : n = xs.length) (hm : m = xs.length) (hl : n ≤ 1099511627776) (had : Ad a n) :
    Con Tryz.prog 105 [.slice a n c, .int .i64 m, cmpV] (own spE t a c xs :: L) (Turns spE t a c (Sorted xs) L) := by
  refine con_of Tryz.tysOk Tryz.func105 rfl rfl ?_
  conv => whnf
  refine Lp.by4 Tryz.tysOk [7, 8] (fun (p q : Int) (D R : List Sp) => [.int .i64 p, .int .i64 q]) (fun p q D R => own spE t a c (D ++ R) :: L) (fun p q D R => p = D.length ∧ q = p + 20 ∧ Full 20 D ∧ (D ++ R).Perm xs) (fun p q D R => R.length) (0) (20) ([]) (xs) (by kernel_rfl) (by (exact Ent.rfl)) (⟨by simp, by omega, .nil, .refl _⟩) ?_
  rintro p q D R ⟨h1, h2, h3, h4⟩
  conv => whnf
  repeat (intro _; conv => whnf)
  have hlen := h4.length_eq
  simp only [List.length_append] at hlen
  by_cases hq : q ≤ m
  · obtain ⟨A, R, rfl, hA⟩ : ∃ A R', R = A ++ R' ∧ A.length = 20 := ⟨R.take 20, R.drop 20, by simp, by rw [List.length_take]; omega⟩
    rw [List.length_append] at hlen
    rw [← List.append_assoc]
    conv => whnf
    repeat' (first
      | ((with_reducible refine Br.dt ?_ ?_); (focus (first | assumption | omega)); conv => whnf)
      | ((with_reducible refine Ar.i64 ?_ ?_); (focus omega); conv => whnf)
      | ((refine Cl.turns (Tryz.insertionSort a c D A R L t n p q (by rw [hn]; simp; omega) h1 (by omega) hl had) (fun ys hys => ?_); obtain ⟨B, rfl, k1, k2⟩ := hys); conv => whnf))
    refine ⟨q, q + 20, D ++ B, R, by kernel_rfl, Ent.rfl, ⟨by have := k1.length_eq; simp; omega, by omega, .snoc h3 (by rw [k1.length_eq]; exact hA) k2, .trans ?_ h4⟩, by rw [List.length_append]; omega⟩
    rw [← List.append_assoc]
    exact (k1.append_left D).append_right R
  · conv => whnf
    repeat' (first
      | ((with_reducible refine Br.df ?_ ?_); (focus (first | assumption | omega)); conv => whnf)
      | ((refine Cl.turns (Tryz.insertionSort a c D R [] L t n p m (by rw [hn]; simp; omega) h1 (by omega) hl had) (fun ys hys => ?_); obtain ⟨B, rfl, k1, k2⟩ := hys); conv => whnf)
      | ((rw [← List.append_nil (D ++ R)]); conv => whnf))
    have hk := k1.length_eq
    have hR0 : Rows 20 (D ++ B ++ []) := by rw [List.append_nil]; exact h3.rows (.last (by omega) k2)
    have hP0 : (D ++ B ++ []).Perm xs := by rw [List.append_nil]; exact (k1.append_left D).trans h4
    clear h1 h2 h3 hq
    conv => whnf
    refine Lp.by2 Tryz.tysOk [6] (fun (b : Nat) (ys : List Sp) => [.int .i64 b]) (fun b ys => own spE t a c ys :: L) (fun b ys => 20 ≤ b ∧ b ≤ 2 * n + 20 ∧ Rows b ys ∧ ys.Perm xs) (fun b ys => n + 40 - b) (20) (D ++ B ++ []) (by kernel_rfl) (by (exact Ent.rfl)) (⟨by omega, by omega, hR0, hP0⟩) ?_
    rintro b ys ⟨i1, i2, i3, i4⟩
    conv => whnf
    repeat (intro _; conv => whnf)
    clear h4 hlen hk hR0 hP0 k1 k2
    have il := i4.length_eq
    by_cases hb : (b : Int) < m
    · conv => whnf
      repeat' (first
        | ((with_reducible refine Br.dt ?_ ?_); (focus (first | assumption | omega)); conv => whnf)
        | ((with_reducible refine Ar.i64 ?_ ?_); (focus omega); conv => whnf))
      rw [show (2 : Int) * (b : Int) = 0 + 2 * (b : Int) from by omega]
      conv => whnf
      refine Lp.by4 Tryz.tysOk [7, 8] (fun (p q : Int) (D R : List Sp) => [.int .i64 p, .int .i64 q]) (fun p q D R => own spE t a c (D ++ R) :: L) (fun p q D R => p = D.length ∧ q = p + 2 * (b : Int) ∧ Full (2 * b) D ∧ Rows b R ∧ (D ++ R).Perm xs) (fun p q D R => R.length) (0) (0 + 2 * (b : Int)) ([]) (ys) (by kernel_rfl) (by (exact Ent.rfl)) (⟨by simp, by omega, .nil, i3, i4⟩) ?_
      rintro p q D R ⟨h1, h2, h3, h4, h5⟩
      conv => whnf
      repeat (intro _; conv => whnf)
      have hlen := h5.length_eq
      simp only [List.length_append] at hlen
      by_cases hq : q ≤ m
      · obtain ⟨A, B, R, rfl, hA, hB, sA, sB, hR⟩ := h4.two (by omega) (by omega)
        simp only [List.length_append] at hlen
        conv => whnf
        repeat' (first
          | ((with_reducible refine Br.dt ?_ ?_); (focus (first | assumption | omega)); conv => whnf)
          | ((with_reducible refine Ar.i64 ?_ ?_); (focus omega); conv => whnf)
          | ((refine Cl.turns (Tryz.symMerge a c L t n hl had _ _ D A B R p (p + b) q (by simp) (Nat.le_refl _) (List.length_pos_iff.1 (by omega)) (List.length_pos_iff.1 (by omega)) sA sB (by rw [hn]; simp; omega) h1 (by omega) (by omega)) (fun ys hys => ?_); obtain ⟨C, rfl, k1, k2⟩ := hys); conv => whnf))
        have hk := k1.length_eq
        rw [List.length_append] at hk
        rw [show q + 2 * (b : Int) = q + 2 * (b : Int) from rfl]
        refine ⟨q, q + 2 * (b : Int), D ++ C, R, by kernel_rfl, Ent.rfl, ⟨by simp; omega, rfl, .snoc h3 (by omega) k2, hR, .trans ?_ h5⟩, by simp only [List.length_append]; omega⟩
        rw [← List.append_assoc]
        exact (k1.append_left D).append_right R
      · by_cases hb2 : b < R.length
        · obtain ⟨A, B, rfl, hA, hB, sA, sB⟩ := h4.one (by omega) (by omega) hb2
          simp only [List.length_append] at hlen hb2
          conv => whnf
          repeat' (first
            | (first | ((with_reducible refine Br.dt ?_ ?_); (focus (first | assumption | omega)); conv => whnf) | ((with_reducible refine Br.df ?_ ?_); (focus (first | assumption | omega)); conv => whnf))
            | ((with_reducible refine Ar.i64 ?_ ?_); (focus omega); conv => whnf)
            | ((refine Cl.turns (Tryz.symMerge a c L t n hl had _ _ D A B [] p (p + b) m (by simp) (Nat.le_refl _) (List.length_pos_iff.1 (by omega)) (List.length_pos_iff.1 (by omega)) sA sB (by rw [hn]; simp; omega) h1 (by omega) (by omega)) (fun ys hys => ?_); obtain ⟨C, rfl, k1, k2⟩ := hys); conv => whnf))
          have hk := k1.length_eq
          rw [List.length_append] at hk
          rw [show (b : Int) * 2 = ((2 * b : Nat) : Int) from by omega]
          refine ⟨2 * b, _, by kernel_rfl, by (exact Ent.rfl), ⟨by omega, by omega, ?_, ?_⟩, by omega⟩
          · rw [List.append_nil]; exact h3.rows (.last (by omega) k2)
          · rw [List.append_nil]; exact (k1.append_left D).trans h5
        · conv => whnf
          repeat' (first
            | ((with_reducible refine Br.df ?_ ?_); (focus (first | assumption | omega)); conv => whnf)
            | ((with_reducible refine Ar.i64 ?_ ?_); (focus omega); conv => whnf))
          rw [show (b : Int) * 2 = ((2 * b : Nat) : Int) from by omega]
          refine ⟨2 * b, _, by kernel_rfl, by (exact Ent.rfl), ⟨by omega, by omega, h3.rows (.last (by omega) (h4.srt (by omega))), h5⟩, by omega⟩
    · conv => whnf
      repeat' ((with_reducible refine Br.df ?_ ?_); (focus (first | assumption | omega)); conv => whnf)
      exact Turns.of _ ⟨i4, i3.srt (by omega)⟩ Ent.rfl
end Go.Proofs
