/- Spans: totals, and what must be whatever is asked. -/
import Derived.Test.YtdjpcfaidgofoaaGreatSortB
set_option linter.all false
namespace Go.Proofs
open Go.Eng
set_option linter.unusedVariables false
set_option maxRecDepth 100000

theorem shr_one (n : Int) : n.fdiv (2 ^ (min (1 : Int).toNat IntKind.u64.bits)) = n / 2 := by
  show n.fdiv 2 = n / 2
  exact Int.fdiv_eq_ediv_of_nonneg n (by omega)

/-- x is put behind all that are less -/
theorem merge_one {B1 B2 : List Sp} {x : Sp} (h : Srt (B1 ++ B2)) (h1 : ∀ y ∈ B1, leS y x) (h2 : ∀ y ∈ B2, leS x y) : (B1 ++ x :: B2).Perm ([x] ++ (B1 ++ B2)) ∧ Srt (B1 ++ x :: B2) :=
  ⟨List.perm_middle, ins_sorted h h2 h1⟩

theorem srt_get {B : List Sp} {k m : Nat} (h : Srt B) (hk : k ≤ m) (hm : m < B.length) : leS (B.getD k spE.d) (B.getD m spE.d) := by
  rcases Nat.lt_or_ge k m with g | g
  · have := List.pairwise_iff_getElem.1 h k m (by omega) hm g
    simpa [List.getD, hm, show k < B.length from by omega] using this
  · have : k = m := by omega
    subst this
    unfold leS ltS; omega
theorem ltS_le {x y z : Sp} (h : leS x y) (g : ltS y z) : ltS x z := by unfold leS ltS at *; omega
theorem ltS_leS {x y : Sp} (h : ltS x y) : leS x y := by unfold leS ltS at *; omega
theorem getD_app {P B Q : List Sp} {d : Sp} {z k : Nat} (hz : z = P.length + k) (hk : k < B.length) : (P ++ B ++ Q).getD z d = B.getD k d := by
  subst hz
  rw [List.append_assoc]
  unfold List.getD
  rw [List.getElem?_append_right (by omega), Nat.add_sub_cancel_left, List.getElem?_append_left hk]
theorem getD_right {B1 B2 : List Sp} {d : Sp} {k : Nat} : (B1 ++ B2).getD (B1.length + k) d = B2.getD k d := by
  unfold List.getD
  rw [List.getElem?_append_right (by omega), Nat.add_sub_cancel_left]
theorem getD_left {B1 B2 : List Sp} {d : Sp} {k : Nat} (hk : k < B1.length) : (B1 ++ B2).getD k d = B1.getD k d := by
  unfold List.getD
  rw [List.getElem?_append_left hk]
theorem adj_set2 {F G : List Sp} {x y u v : Sp} {j i : Nat} (hj : j = F.length + 1) (hi : i = F.length) : ((F ++ y :: x :: G).set i u).set j v = F ++ u :: v :: G := by
  rw [set_mid hi]
  have e : F ++ u :: (x :: G) = (F ++ [u]) ++ x :: G := by simp
  rw [e, set_mid (by simp [hj])]
  simp
theorem le_last {A1 A2 : List Sp} (h : Srt (A1 ++ A2)) {k : Nat} (hk : k + 1 = A1.length) : ∀ x ∈ A1, leS x ((A1 ++ A2).getD k spE.d) :=
  (all_iff spE.d).2 fun i hi => by
    have := srt_get h (k := i) (m := k) (by omega) (by simp; omega)
    rwa [getD_left hi] at this
theorem ge_first {A1 A2 : List Sp} (h : Srt (A1 ++ A2)) {k : Nat} (hk : k = A1.length) : ∀ y ∈ A2, leS ((A1 ++ A2).getD k spE.d) y :=
  (all_iff spE.d).2 fun i hi => by
    have := srt_get h (k := k) (m := A1.length + i) (by omega) (by simp; omega)
    rwa [getD_right] at this
theorem mg_end {P A1 A2 B1 B2 Q C1 C2 ys : List Sp} (hy : ys = P ++ C1 ++ C2 ++ Q) (p1 : C1.Perm (A1 ++ B1)) (s1 : Srt C1) (p2 : C2.Perm (A2 ++ B2)) (s2 : Srt C2)
    (hx : ∀ x ∈ A1 ++ B1, ∀ y ∈ A2 ++ B2, leS x y) : ∃ C, ys = P ++ C ++ Q ∧ C.Perm (A1 ++ A2 ++ (B1 ++ B2)) ∧ Srt C := by
  refine ⟨C1 ++ C2, by rw [hy]; simp, ?_, List.pairwise_append.2 ⟨s1, s2, fun x h1 y h2 => hx x (p1.mem_iff.1 h1) y (p2.mem_iff.1 h2)⟩⟩
  refine (p1.append p2).trans ?_
  rw [List.append_assoc, List.append_assoc]
  refine List.Perm.append_left A1 ?_
  rw [← List.append_assoc, ← List.append_assoc]
  exact List.Perm.append_right B2 List.perm_append_comm
abbrev Merged (P A B Q : List Sp) (ys : List Sp) : Prop := ∃ C, ys = P ++ C ++ Q ∧ C.Perm (A ++ B) ∧ Srt C

end Go.Proofs
set_option linter.all false
namespace Go.Proofs
open Go.Eng
set_option linter.unusedVariables false
set_option maxRecDepth 100000

theorem srt_cat {A B : List Sp} (hA : Srt A) (hB : Srt B) (h : A.length = 0 ∨ B.length = 0) : Srt (A ++ B) := by
  rcases h with h | h
  · rw [List.eq_nil_of_length_eq_zero h]; exact hB
  · rw [List.eq_nil_of_length_eq_zero h, List.append_nil]; exact hA
theorem cat_swap {P A1 A2 B1 B2 Q : List Sp} (h : A2.length = 0 ∨ B1.length = 0) : P ++ (A1 ++ A2) ++ (B1 ++ B2) ++ Q = P ++ A1 ++ B1 ++ A2 ++ (B2 ++ Q) := by
  rcases h with h | h
  · rw [List.eq_nil_of_length_eq_zero h]; simp
  · rw [List.eq_nil_of_length_eq_zero h]; simp
end Go.Proofs
set_option linter.all false
namespace Go.Proofs
open Go.Eng
set_option linter.unusedVariables false
set_option maxRecDepth 100000

/-- full sorted rows of b each -/
inductive Full (b : Nat) : List Sp → Prop
  | nil : Full b []
  | snoc {D A : List Sp} : Full b D → A.length = b → Srt A → Full b (D ++ A)
/-- full sorted rows, and a last one -/
inductive Rows (b : Nat) : List Sp → Prop
  | last {A : List Sp} : A.length ≤ b → Srt A → Rows b A
  | cons {A R : List Sp} : A.length = b → Srt A → Rows b R → Rows b (A ++ R)
theorem Full.rows {b : Nat} {D : List Sp} (h : Full b D) : ∀ {R}, Rows b R → Rows b (D ++ R) := by
  induction h with
  | nil => exact fun h => h
  | snoc _ hl hs ih => intro R hR; rw [List.append_assoc]; exact ih (.cons hl hs hR)
theorem Rows.two {b : Nat} {R : List Sp} (hb : 0 < b) (h : Rows b R) (hl : 2 * b ≤ R.length) : ∃ A B R', R = A ++ B ++ R' ∧ A.length = b ∧ B.length = b ∧ Srt A ∧ Srt B ∧ Rows b R' := by
  cases h with
  | last h1 h2 => omega
  | @cons A R h1 h2 h3 =>
    cases h3 with
    | @last A' g1 g2 =>
      rw [List.length_append] at hl
      exact ⟨A, R, [], by simp, h1, by omega, h2, g2, .last (Nat.zero_le _) List.Pairwise.nil⟩
    | @cons B R' g1 g2 g3 => exact ⟨A, B, R', by simp, h1, g1, h2, g2, g3⟩
theorem Rows.one {b : Nat} {R : List Sp} (hb : 0 < b) (h : Rows b R) (hl : R.length < 2 * b) (h0 : b < R.length) : ∃ A B, R = A ++ B ∧ A.length = b ∧ B.length ≤ b ∧ Srt A ∧ Srt B := by
  cases h with
  | last h1 h2 => omega
  | @cons A R h1 h2 h3 =>
    cases h3 with
    | @last A' g1 g2 => exact ⟨A, R, rfl, h1, g1, h2, g2⟩
    | @cons B R' g1 g2 g3 => rw [List.length_append, List.length_append] at hl; omega
theorem Rows.srt {b : Nat} {R : List Sp} (h : Rows b R) (hl : R.length ≤ b) : Srt R := by
  cases h with
  | last h1 h2 => exact h2
  | @cons A R h1 h2 h3 =>
    rw [List.length_append] at hl
    have : R = [] := List.eq_nil_of_length_eq_zero (by omega)
    rw [this, List.append_nil]; exact h2

abbrev Sorted (xs ys : List Sp) : Prop := ys.Perm xs ∧ Srt ys
end Go.Proofs
set_option linter.all false
namespace Go.Proofs
open Go.Eng
set_option linter.unusedVariables false
set_option maxRecDepth 100000

/-- the sorted row -/
theorem srt_uniq : ∀ {xs ys : List Sp}, xs.Perm ys → Srt xs → Srt ys → xs = ys := by
  intro xs ys hp hx hy
  exact hp.eq_of_pairwise (fun a b _ _ h1 h2 => by unfold leS ltS at *; exact Prod.ext (by omega) (by omega)) hx hy
noncomputable def sortF (xs : List Sp) : List Sp := Classical.epsilon (Sorted xs)
theorem sortF_eq {xs ys : List Sp} (h : Sorted xs ys) : sortF xs = ys := by
  have := Classical.epsilon_spec (p := Sorted xs) ⟨ys, h⟩
  exact srt_uniq (this.1.trans h.1.symm) this.2 h.2
end Go.Proofs
set_option linter.all false
namespace Go.Proofs
open Go.Eng
set_option linter.unusedVariables false
set_option maxRecDepth 100000

theorem srt_ex : ∀ xs : List Sp, ∃ ys, Sorted xs ys
  | [] => ⟨[], .refl _, List.Pairwise.nil⟩
  | x :: xs => by
    obtain ⟨ys, hp, hs⟩ := srt_ex xs
    have key : ∀ ys : List Sp, Srt ys → ∃ zs, zs.Perm (x :: ys) ∧ Srt zs := by
      intro ys
      induction ys with
      | nil => exact fun _ => ⟨[x], .refl _, by simp⟩
      | cons y ys ih =>
        intro h
        have hc := List.pairwise_cons.1 h
        by_cases hxy : leS x y
        · refine ⟨x :: y :: ys, .refl _, List.pairwise_cons.2 ⟨fun z hz => ?_, h⟩⟩
          rcases List.mem_cons.1 hz with rfl | hz
          · exact hxy
          · exact leS_trans hxy (hc.1 z hz)
        · obtain ⟨zs, h1, h2⟩ := ih hc.2
          refine ⟨y :: zs, (h1.cons y).trans (List.Perm.swap x y ys), List.pairwise_cons.2 ⟨fun z hz => ?_, h2⟩⟩
          rcases List.mem_cons.1 (h1.mem_iff.1 hz) with rfl | hz
          · unfold leS ltS at *; omega
          · exact hc.1 z hz
    obtain ⟨zs, h1, h2⟩ := key ys hs
    exact ⟨zs, h1.trans (hp.cons x), h2⟩
theorem sortF_spec (xs : List Sp) : Sorted xs (sortF xs) := Classical.epsilon_spec (srt_ex xs)
theorem sortF_len (xs : List Sp) : (sortF xs).length = xs.length := (sortF_spec xs).1.length_eq
def lastS (out : List Sp) : Sp := out.getD (out.length - 1) spE.d
def mstep (out : List Sp) (s : Sp) : List Sp :=
  if isS s.1 s.2 then (if out ≠ [] ∧ s.1 ≤ (lastS out).2 then out.set (out.length - 1) ((lastS out).1, max (lastS out).2 s.2) else out ++ [s]) else out
def mergeS (xs : List Sp) : List Sp := xs.foldl mstep []
noncomputable def mergeF (xs : List Sp) : List Sp := mergeS (sortF xs)
theorem mstep_len (out : List Sp) (s : Sp) : (mstep out s).length ≤ out.length + 1 := by
  unfold mstep
  repeat' split
  all_goals simp
theorem take_snoc {xs : List Sp} {k : Nat} (h : k < xs.length) : xs.take (k + 1) = xs.take k ++ [xs.getD k spE.d] := by
  rw [List.take_add_one, get_some h]; rfl
theorem mergeS_take {xs : List Sp} {k : Nat} (h : k < xs.length) : mergeS (xs.take (k + 1)) = mstep (mergeS (xs.take k)) (xs.getD k spE.d) := by
  rw [take_snoc h]; simp [mergeS]

end Go.Proofs
set_option linter.all false
namespace Go.Proofs
open Go.Eng
set_option linter.unusedVariables false
set_option maxRecDepth 100000

theorem mstep_ok {M : Int} {out : List Sp} {s : Sp} (h : ∀ y ∈ out, isS y.1 y.2 ∧ y.2 ≤ M) (hs : s.2 ≤ M) : ∀ y ∈ mstep out s, isS y.1 y.2 ∧ y.2 ≤ M := by
  intro y hy
  unfold mstep at hy
  split at hy
  · rename_i hi
    split at hy
    · rename_i hc
      have hm : lastS out ∈ out := getD_mem (by have := List.length_pos_iff.2 hc.1; omega)
      rcases List.mem_or_eq_of_mem_set hy with hy | rfl
      · exact h y hy
      · have := h _ hm
        simp only
        omega
    · rcases List.mem_append.1 hy with hy | hy
      · exact h y hy
      · rw [List.mem_singleton] at hy; subst hy; exact ⟨hi, hs⟩
  · exact h y hy
theorem merge_ok {M : Int} {xs : List Sp} (hs : ∀ x ∈ xs, x.2 ≤ M) : ∀ y ∈ mergeF xs, isS y.1 y.2 ∧ y.2 ≤ M := by
  have key : ∀ (zs out : List Sp), (∀ x ∈ zs, x.2 ≤ M) → (∀ y ∈ out, isS y.1 y.2 ∧ y.2 ≤ M) → ∀ y ∈ zs.foldl mstep out, isS y.1 y.2 ∧ y.2 ≤ M := by
    intro zs
    induction zs with
    | nil => exact fun out _ h => h
    | cons z zs ih => exact fun out hz h => ih _ (fun x hx => hz x (by simp [hx])) (mstep_ok h (hz z (by simp)))
  exact key _ [] (fun x hx => hs x ((sortF_spec xs).1.mem_iff.1 hx)) (by simp)
theorem mergeS_len : ∀ (zs out : List Sp), (zs.foldl mstep out).length ≤ out.length + zs.length := by
  intro zs
  induction zs with
  | nil => intro out; simp
  | cons z zs ih =>
    intro out
    have h1 := ih (mstep out z)
    have h2 := mstep_len out z
    simp only [List.foldl_cons, List.length_cons]
    omega
theorem mergeF_len (xs : List Sp) : (mergeF xs).length ≤ xs.length := by
  have := mergeS_len (sortF xs) []
  rw [sortF_len] at this
  simpa [mergeF, mergeS] using this

def totalS (ys : List Sp) : Int := (ys.map fun s => s.2 - s.1).sum
theorem totalS_take {ys : List Sp} {k : Nat} (h : k < ys.length) : totalS (ys.take (k + 1)) = totalS (ys.take k) + ((ys.getD k spE.d).2 - (ys.getD k spE.d).1) := by
  rw [take_snoc h]; simp [totalS]
theorem totalS_bd {ys : List Sp} (h : ∀ y ∈ ys, isS y.1 y.2 ∧ y.2 ≤ 1000000) : 0 ≤ totalS ys ∧ totalS ys ≤ 1000000 * ys.length := by
  induction ys with
  | nil => simp [totalS]
  | cons y ys ih =>
    have h1 := h y (by simp)
    have h2 := ih fun z hz => h z (by simp [hz])
    have e : totalS (y :: ys) = (y.2 - y.1) + totalS ys := by simp [totalS]
    have e2 : ((y :: ys).length : Int) = ys.length + 1 := by simp
    rw [e, e2]
    omega
end Go.Proofs
