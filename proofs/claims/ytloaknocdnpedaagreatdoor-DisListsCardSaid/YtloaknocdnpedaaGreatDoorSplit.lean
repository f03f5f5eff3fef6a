/- Texts cut at one byte: plain laws. -/
import Derived.Lib.SplitLaws
import Derived.Lib.CutLaws
import Derived.Test.YtloaknocdnpedaaGreatDoorLib
set_option linter.all false
namespace Go.Eng
open Go
/-- the first word, and the others -/
def spl (c : UInt8) : List UInt8 → List UInt8 × List (List UInt8)
  | [] => ([], [])
  | x :: l => if x = c then ([], (spl c l).1 :: (spl c l).2) else (x :: (spl c l).1, (spl c l).2)
def splL (c : UInt8) (l : List UInt8) : List (List UInt8) := (spl c l).1 :: (spl c l).2
theorem index_eq (c : UInt8) (l : List UInt8) : Lib.index (c :: l) [c] = 0 := by rw [Lib.index]; simp [List.isPrefixOf]
theorem index_ne {b c : UInt8} (l : List UInt8) (h : b ≠ c) : Lib.index (b :: l) [c] = if Lib.index l [c] == -1 then -1 else Lib.index l [c] + 1 := by
  have hp : ([c] : List UInt8).isPrefixOf (b :: l) = false := by simp [List.isPrefixOf, Ne.symm h]
  rw [Lib.index, hp]
  simp
theorem splitK_one (c : UInt8) : ∀ (l : List UInt8), Lib.splitK [c] 0 (l.count c) l = splL c l := by
  intro l
  induction l with
  | nil => rfl
  | cons x l ih =>
    by_cases h : x = c
    · subst h
      rw [List.count_cons_self, Lib.splitK, index_eq]
      have e : ((0 : Int) == -1) = false := rfl
      rw [e]
      show List.take 0 (x :: l) :: Lib.splitK [x] 0 (l.count x) (List.drop 1 (x :: l)) = _
      rw [List.take_zero, List.drop_succ_cons, List.drop_zero, ih]
      simp [splL, spl]
    · rw [List.count_cons_of_ne (by simpa using h)]
      cases hk : l.count c with
      | zero =>
        rw [hk] at ih
        have e : splL c l = [l] := ih.symm
        simp only [splL, List.cons.injEq] at e
        show [x :: l] = _
        simp only [splL, spl, if_neg h, e.1, e.2]
      | succ k =>
        rw [hk] at ih
        rw [Lib.splitK] at ih ⊢
        rw [index_ne l h]
        have hge := Lib.index_ge l [c]
        by_cases hm : Lib.index l [c] = -1
        · rw [hm] at ih ⊢
          simp only [beq_self_eq_true, if_true] at ih ⊢
          have e := ih.symm
          simp only [splL, List.cons.injEq] at e
          simp only [splL, spl, if_neg h, e.1, e.2]
        · have hb : (Lib.index l [c] == -1) = false := by simpa using hm
          obtain ⟨j, hj⟩ : ∃ j : Nat, Lib.index l [c] = j := ⟨(Lib.index l [c]).toNat, by omega⟩
          rw [hb, hj] at ih
          rw [hb, hj]
          have hb2 : (((j : Int) + 1) == -1) = false := by simpa using (by omega : ¬ (j : Int) + 1 = -1)
          simp only [Bool.false_eq_true, if_false, hb2] at ih ⊢
          have e := ih.symm
          simp only [splL, List.cons.injEq] at e
          have t1 : ((j : Int) + 1).toNat = j + 1 := by omega
          have t2 : (j : Int).toNat = j := by omega
          rw [t2] at e
          rw [t1]
          simp only [splL, spl, if_neg h, e.1, e.2, Nat.add_zero, List.take_succ_cons, List.length_cons, List.length_nil]
          rw [show j + 1 + (0 + 1) = (j + (0 + 1)) + 1 from by omega, List.drop_succ_cons]
theorem spl_app {c : UInt8} {w : List UInt8} (h : c ∉ w) (r : List UInt8) : spl c (w ++ c :: r) = (w, (spl c r).1 :: (spl c r).2) := by
  induction w with
  | nil => simp [spl]
  | cons x w ih =>
    have hx : x ≠ c := fun e => h (by simp [e])
    have hw : c ∉ w := fun e => h (by simp [e])
    simp only [List.cons_append, spl, if_neg hx, ih hw]
theorem spl_none {c : UInt8} {w : List UInt8} (h : c ∉ w) : spl c w = (w, []) := by
  induction w with
  | nil => rfl
  | cons x w ih =>
    have hx : x ≠ c := fun e => h (by simp [e])
    have hw : c ∉ w := fun e => h (by simp [e])
    simp only [spl, if_neg hx, ih hw]
theorem index_app {c : UInt8} {w : List UInt8} (h : c ∉ w) (r : List UInt8) : Lib.index (w ++ c :: r) [c] = w.length := by
  induction w with
  | nil => exact index_eq c r
  | cons x w ih =>
    have hx : x ≠ c := fun e => h (by simp [e])
    have hw : c ∉ w := fun e => h (by simp [e])
    rw [List.cons_append, index_ne _ hx, ih hw]
    have hb : ((w.length : Int) == -1) = false := by simpa using (by omega : ¬ (w.length : Int) = -1)
    rw [hb]
    simp
theorem index_not {c : UInt8} {w : List UInt8} (h : c ∉ w) : Lib.index w [c] = -1 := by
  induction w with
  | nil => rfl
  | cons x w ih =>
    have hx : x ≠ c := fun e => h (by simp [e])
    have hw : c ∉ w := fun e => h (by simp [e])
    rw [index_ne _ hx, ih hw]
    rfl
theorem cut_app {c : UInt8} {w : List UInt8} (h : c ∉ w) (r : List UInt8) : Lib.cut (w ++ c :: r) [c] = (w, r, true) := by
  unfold Lib.cut
  rw [index_app h r, if_pos (by omega)]
  have e : (w.length : Int).toNat = w.length := by omega
  rw [e]
  simp
theorem cut_not {c : UInt8} {w : List UInt8} (h : c ∉ w) : Lib.cut w [c] = (w, [], false) := by
  unfold Lib.cut
  rw [index_not h, if_neg (by omega)]
end Go.Eng
