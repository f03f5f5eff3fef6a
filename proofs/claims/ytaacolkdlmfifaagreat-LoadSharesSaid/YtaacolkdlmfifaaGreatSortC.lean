/- The library's merging in place, of spans. -/
import Derived.Test.YtaacolkdlmfifaaGreatSortB
set_option linter.all false
namespace Go.Proofs
open Go.Eng
set_option linter.unusedVariables false
set_option maxRecDepth 100000

theorem shr_one (n : Int) : n.fdiv (2 ^ (min (1 : Int).toNat IntKind.u64.bits)) = n / 2 := by
  show n.fdiv 2 = n / 2
  exact Int.fdiv_eq_ediv_of_nonneg n (by omega)

/-- x is put behind all that are less -/
theorem merge_one {B1 B2 : List Sp} {x : Sp} (h : Srt (B1 ++ B2)) (h1 : ∀ y ∈ B1, leS y x) (h2 : ∀ y ∈ B2, leS x y) : (B1 ++ x :: B2).Perm ([x] ++ (B1 ++ B2)) ∧ Srt (B1 ++ x :: B2) :=
  ⟨List.perm_middle, ins_sorted h h2 h1⟩

theorem srt_get {B : List Sp} {k m : Nat} (h : Srt B) (hk : k ≤ m) (hm : m < B.length) : leS (B.getD k spE.d) (B.getD m spE.d) := by
  rcases Nat.lt_or_ge k m with g | g
  · have := List.pairwise_iff_getElem.1 h k m (by omega) hm g
    simpa [List.getD, hm, show k < B.length from by omega] using this
  · have : k = m := by omega
    subst this
    unfold leS ltS; omega
theorem ltS_le {x y z : Sp} (h : leS x y) (g : ltS y z) : ltS x z := by unfold leS ltS at *; omega
theorem ltS_leS {x y : Sp} (h : ltS x y) : leS x y := by unfold leS ltS at *; omega
theorem getD_app {P B Q : List Sp} {d : Sp} {z k : Nat} (hz : z = P.length + k) (hk : k < B.length) : (P ++ B ++ Q).getD z d = B.getD k d := by
  subst hz
  rw [List.append_assoc]
  unfold List.getD
  rw [List.getElem?_append_right (by omega), Nat.add_sub_cancel_left, List.getElem?_append_left hk]
theorem getD_right {B1 B2 : List Sp} {d : Sp} {k : Nat} : (B1 ++ B2).getD (B1.length + k) d = B2.getD k d := by
  unfold List.getD
  rw [List.getElem?_append_right (by omega), Nat.add_sub_cancel_left]
theorem getD_left {B1 B2 : List Sp} {d : Sp} {k : Nat} (hk : k < B1.length) : (B1 ++ B2).getD k d = B1.getD k d := by
  unfold List.getD
  rw [List.getElem?_append_left hk]
theorem adj_set2 {F G : List Sp} {x y u v : Sp} {j i : Nat} (hj : j = F.length + 1) (hi : i = F.length) : ((F ++ y :: x :: G).set i u).set j v = F ++ u :: v :: G := by
  rw [set_mid hi]
  have e : F ++ u :: (x :: G) = (F ++ [u]) ++ x :: G := by simp
  rw [e, set_mid (by simp [hj])]
  simp
theorem le_last {A1 A2 : List Sp} (h : Srt (A1 ++ A2)) {k : Nat} (hk : k + 1 = A1.length) : ∀ x ∈ A1, leS x ((A1 ++ A2).getD k spE.d) :=
  (all_iff spE.d).2 fun i hi => by
    have := srt_get h (k := i) (m := k) (by omega) (by simp; omega)
    rwa [getD_left hi] at this
theorem ge_first {A1 A2 : List Sp} (h : Srt (A1 ++ A2)) {k : Nat} (hk : k = A1.length) : ∀ y ∈ A2, leS ((A1 ++ A2).getD k spE.d) y :=
  (all_iff spE.d).2 fun i hi => by
    have := srt_get h (k := k) (m := A1.length + i) (by omega) (by simp; omega)
    rwa [getD_right] at this
theorem mg_end {P A1 A2 B1 B2 Q C1 C2 ys : List Sp} (hy : ys = P ++ C1 ++ C2 ++ Q) (p1 : C1.Perm (A1 ++ B1)) (s1 : Srt C1) (p2 : C2.Perm (A2 ++ B2)) (s2 : Srt C2)
    (hx : ∀ x ∈ A1 ++ B1, ∀ y ∈ A2 ++ B2, leS x y) : ∃ C, ys = P ++ C ++ Q ∧ C.Perm (A1 ++ A2 ++ (B1 ++ B2)) ∧ Srt C := by
  refine ⟨C1 ++ C2, by rw [hy]; simp, ?_, List.pairwise_append.2 ⟨s1, s2, fun x h1 y h2 => hx x (p1.mem_iff.1 h1) y (p2.mem_iff.1 h2)⟩⟩
  refine (p1.append p2).trans ?_
  rw [List.append_assoc, List.append_assoc]
  refine List.Perm.append_left A1 ?_
  rw [← List.append_assoc, ← List.append_assoc]
  exact List.Perm.append_right B2 List.perm_append_comm
abbrev cmpV : Value := .func (.func 94) #[] #[]
abbrev Merged (P A B Q : List Sp) (ys : List Sp) : Prop := ∃ C, ys = P ++ C ++ Q ∧ C.Perm (A ++ B) ∧ Srt C

theorem Tryz.symMerge1 (a : Option Addr) (c : Nat) (L : List HP) (t : TypeId) (n : Nat) (hl : n ≤ 1099511627776) (had : Ad a n) (zs P A B Q : List Sp) (p q r : Int) (hz : zs = P ++ A ++ B ++ Q) (hA : A ≠ []) (hB : B ≠ []) (sA : Srt A) (sB : Srt B)
    (hn : n = (P ++ A ++ B ++ Q).length) (hp : p = P.length) (hq : q = (P.length + A.length : Nat)) (hr : r = (P.length + A.length + B.length : Nat)) (c1 : A.length = 1) :
    Con Tryz.prog 108 [.slice a n c, .int .i64 p, .int .i64 q, .int .i64 r, cmpV] (own spE t a c zs :: L)
      (Turns spE t a c (Merged P A B Q) L) := by
  subst hz
  have hlen : n = P.length + A.length + B.length + Q.length := by rw [hn]; simp; omega
  have lA := List.length_pos_iff.2 hA
  have lB := List.length_pos_iff.2 hB
  obtain ⟨x, rfl⟩ := List.length_eq_one_iff.1 c1
  refine con_of Tryz.tysOk Tryz.func108 rfl rfl ?_
  conv => whnf
  repeat' (first
    | ((with_reducible refine Br.dt ?_ ?_); (focus (first | assumption | omega)); conv => whnf)
    | ((with_reducible refine Ar.i64 ?_ ?_); (focus omega); conv => whnf))
  have hx : ∀ z : Int, z = P.length → (P ++ [x] ++ B ++ Q).getD z.toNat spE.d = x := fun z hz => by
    have e : P ++ [x] ++ B ++ Q = P ++ x :: (B ++ Q) := by simp
    rw [e]; exact getD_mid (by omega)
  have hb : ∀ (z : Int) (k : Nat), z = (P.length : Int) + 1 + k → k < B.length → (P ++ [x] ++ B ++ Q).getD z.toNat spE.d = B.getD k spE.d := fun z k hz hk => by
    refine getD_app (by simp; omega) hk
  have e1 : ([x] : List Sp).length = 1 := rfl
  conv => whnf
  refine Lp.by2 Tryz.tysOk [10, 11] (fun (i j : Int) => [.int .i64 i, .int .i64 j]) (fun i j => own spE t a c (P ++ [x] ++ B ++ Q) :: L) (fun i j => q ≤ i ∧ i ≤ j ∧ j ≤ r ∧ (∀ k : Nat, q + k < i → ltS (B.getD k spE.d) x) ∧ (∀ k : Nat, k < B.length → j ≤ q + k → leS x (B.getD k spE.d))) (fun i j => (j - i).toNat) (q) (r) (by kernel_rfl) (by (exact Ent.rfl)) (⟨by omega, by omega, by omega, fun k hk => by omega, fun k hk hk2 => by omega⟩) ?_
  rintro i j ⟨h1, h2, h3, h4, h5⟩
  conv => whnf
  repeat (intro _; conv => whnf)
  conv => whnf
  repeat' (first
    | ((with_reducible refine Bt.raw ?_); conv => whnf)
    | (first | ((with_reducible refine Ar.i64 ?_ ?_); (focus omega); conv => whnf) | ((with_reducible refine Ar.u64 ?_ ?_); (focus omega); conv => whnf))
    | ((with_reducible refine Nd.mk ?_ ?_); (focus (first | omega | rfl | assumption | (simp; done))); conv => whnf)
    | ((with_reducible refine Ix.ad ?_ ?_ ?_); (focus (assumption)); (focus (omega)); conv => whnf)
    | ((apply LdN.rd); (focus ((repeat ((refine Rd.own 0 rfl ?_); (exact Ad.mono (by assumption) (by (omega))))); done)); (focus rfl); (focus rfl); (focus (omega)); conv => whnf)
    | ((with_reducible refine Dr.by (id := 5) Tryz.tysOk rfl [(0, 0), (1, 0), (2, 0), (3, 0), (5, 0), (6, 0), (7, 0), (4, 1), (8, 1), (9, 3), (10, 0)] ?_ ?_); (focus kernel_rfl); conv => whnf)
    | ((with_reducible refine Cl.is (Tryz.sortedCmp _ _ _ _ _) ?_); conv => whnf)
    | ((rw [shr_one]); conv => whnf)
    | ((with_reducible refine Br.ds (fun _ => ?_) (fun _ => ?_) ) <;> (conv => whnf)))
  · rename_i hlt hc
    rw [spC_lt, hx p hp, hb ((i + j) / 2) (((i + j) / 2 - q).toNat) (by omega) (by omega)] at hc
    refine ⟨(i + j) / 2 + 1, j, by kernel_rfl, by (exact Ent.rfl), ⟨by omega, by omega, by omega, fun k hk => ltS_le (srt_get sB (by omega) (by omega)) hc, h5⟩, by omega⟩
  · rename_i hlt hc
    rw [spC_lt, hx p hp, hb ((i + j) / 2) (((i + j) / 2 - q).toNat) (by omega) (by omega)] at hc
    refine ⟨i, (i + j) / 2, by kernel_rfl, by (exact Ent.rfl), ⟨by omega, by omega, by omega, h4, fun k hk hk2 => leS_trans hc (srt_get sB (by omega) (by omega))⟩, by omega⟩
  · have hij : j = i := by omega
    subst hij
    obtain ⟨B1, B2, rfl, hB1⟩ : ∃ B1 B2, B = B1 ++ B2 ∧ B1.length = (j - q).toNat := ⟨B.take (j - q).toNat, B.drop (j - q).toNat, by simp, by rw [List.length_take]; omega⟩
    have f1 : ∀ y ∈ B1, leS y x := (all_iff spE.d).2 fun k hk => by
      have := h4 k (by omega)
      rw [getD_left hk] at this
      exact ltS_leS this
    have f2 : ∀ y ∈ B2, leS x y := (all_iff spE.d).2 fun k hk => by
      have := h5 (B1.length + k) (by simp; omega) (by omega)
      rwa [getD_right] at this
    have lB' : (B1 ++ B2).length = B1.length + B2.length := by simp
    have hc0 : P ++ [x] ++ (B1 ++ B2) ++ Q = P ++ [] ++ x :: (B1 ++ B2 ++ Q) := by simp
    rw [hc0]
    conv => whnf
    refine Lp.by3 Tryz.tysOk [13] (fun (z : Int) (T U : List Sp) => [.int .i64 z]) (fun z T U => own spE t a c (P ++ T ++ x :: (U ++ B2 ++ Q)) :: L) (fun z T U => z = p + (T.length : Int) ∧ T ++ U = B1) (fun z T U => U.length) (p) ([]) (B1) (by kernel_rfl) (by (exact Ent.rfl)) (⟨by simp, by simp⟩) ?_
    rintro z T U ⟨g1, g2⟩
    conv => whnf
    repeat (intro _; conv => whnf)
    have gl := congrArg List.length g2
    simp only [List.length_append] at gl
    rcases U with _ | ⟨y, U⟩
    · have e0 : ((([] : List Sp).length : Nat) : Int) = 0 := rfl
      conv => whnf
      repeat' (first
        | ((with_reducible refine Br.df ?_ ?_); (focus (first | assumption | omega)); conv => whnf)
        | ((with_reducible refine Ar.i64 ?_ ?_); (focus omega); conv => whnf))
      refine Turns.of _ ⟨B1 ++ x :: B2, ?_, (merge_one sB f1 f2).1, (merge_one sB f1 f2).2⟩ Ent.rfl
      rw [← g2]; simp
    · have e2 : (y :: U).length = U.length + 1 := rfl
      have hF : P ++ T ++ x :: (y :: U ++ B2 ++ Q) = (P ++ T) ++ x :: y :: (U ++ B2 ++ Q) := by simp
      rw [hF]
      have d1 : ((P ++ T) ++ x :: y :: (U ++ B2 ++ Q)).getD (z + 1).toNat spE.d = y := adj_hi (by simp; omega)
      have d2 : ((P ++ T) ++ x :: y :: (U ++ B2 ++ Q)).getD z.toNat spE.d = x := getD_mid (by simp; omega)
      conv => whnf
      repeat' (first
        | ((with_reducible refine Br.dt ?_ ?_); (focus (first | assumption | omega)); conv => whnf)
        | ((with_reducible refine Ar.i64 ?_ ?_); (focus omega); conv => whnf)
        | ((with_reducible refine Nd.mk ?_ ?_); (focus (first | omega | rfl | assumption | (simp; done))); conv => whnf)
        | ((with_reducible refine Ix.ad ?_ ?_ ?_); (focus (assumption)); (focus (omega)); conv => whnf)
        | ((apply LdN.rd); (focus ((repeat ((refine Rd.own 0 rfl ?_); (exact Ad.mono (by assumption) (by (simp only [List.length_set, List.length_append, List.length_take, List.length_drop, List.length_cons, List.length_nil] at *; omega))))); done)); (focus rfl); (focus rfl); (focus (simp only [List.length_set, List.length_append, List.length_take, List.length_drop, List.length_cons, List.length_nil] at *; omega)); conv => whnf)
        | ((with_reducible refine Dr.by (id := 11) Tryz.tysOk rfl [(0, 0), (1, 0), (2, 0), (3, 0), (4, 0), (5, 0), (6, 0), (7, 0), (8, 0), (10, 0), (11, 0), (12, 0), (9, 1), (13, 1), (14, 0), (15, 3), (16, 0), (17, 3)] ?_ ?_); (focus kernel_rfl); conv => whnf)
        | ((rw [d1, d2]); conv => whnf)
        | ((refine St.own0 0 rfl rfl ?_ (_, _) rfl (by exact Nat.le_of_ble_eq_true rfl) rfl ?_; (focus (simp only [List.length_set, List.length_append, List.length_take, List.length_drop, List.length_cons, List.length_nil] at *; omega))); conv => whnf))
      refine ⟨z + 1, T ++ [y], U, by kernel_rfl, Ent.of_eq ?_, ⟨by simp; omega, by rw [← g2]; simp⟩, by rw [e2]; omega⟩
      try simp only [List.set_cons_zero]
      rw [adj_set2 (by simp; omega) (by simp; omega)]
      simp
theorem Tryz.symMerge2 (a : Option Addr) (c : Nat) (L : List HP) (t : TypeId) (n : Nat) (hl : n ≤ 1099511627776) (had : Ad a n) (zs P A B Q : List Sp) (p q r : Int) (hz : zs = P ++ A ++ B ++ Q) (hA : A ≠ []) (hB : B ≠ []) (sA : Srt A) (sB : Srt B)
    (hn : n = (P ++ A ++ B ++ Q).length) (hp : p = P.length) (hq : q = (P.length + A.length : Nat)) (hr : r = (P.length + A.length + B.length : Nat)) (c1 : ¬ A.length = 1) (c2 : B.length = 1) :
    Con Tryz.prog 108 [.slice a n c, .int .i64 p, .int .i64 q, .int .i64 r, cmpV] (own spE t a c zs :: L)
      (Turns spE t a c (Merged P A B Q) L) := by
  subst hz
  have hlen : n = P.length + A.length + B.length + Q.length := by rw [hn]; simp; omega
  have lA := List.length_pos_iff.2 hA
  have lB := List.length_pos_iff.2 hB
  obtain ⟨x, rfl⟩ := List.length_eq_one_iff.1 c2
  have e1 : ([x] : List Sp).length = 1 := rfl
  refine con_of Tryz.tysOk Tryz.func108 rfl rfl ?_
  conv => whnf
  repeat' (first
    | (first | ((with_reducible refine Br.dt ?_ ?_); (focus (first | assumption | omega)); conv => whnf) | ((with_reducible refine Br.df ?_ ?_); (focus (first | assumption | omega)); conv => whnf))
    | ((with_reducible refine Ar.i64 ?_ ?_); (focus omega); conv => whnf))
  have hx : (P ++ A ++ [x] ++ Q).getD q.toNat spE.d = x := by
    have e : P ++ A ++ [x] ++ Q = (P ++ A) ++ x :: Q := by simp
    rw [e]; exact getD_mid (by simp; omega)
  have hb : ∀ (z : Int) (k : Nat), z = (P.length : Int) + k → k < A.length → (P ++ A ++ [x] ++ Q).getD z.toNat spE.d = A.getD k spE.d := fun z k hz hk => by
    rw [List.append_assoc]
    exact getD_app (by omega) hk
  conv => whnf
  refine Lp.by2 Tryz.tysOk [14, 15] (fun (i j : Int) => [.int .i64 i, .int .i64 j]) (fun i j => own spE t a c (P ++ A ++ [x] ++ Q) :: L) (fun i j => p ≤ i ∧ i ≤ j ∧ j ≤ q ∧ (∀ k : Nat, p + k < i → leS (A.getD k spE.d) x) ∧ (∀ k : Nat, k < A.length → j ≤ p + k → leS x (A.getD k spE.d))) (fun i j => (j - i).toNat) (p) (q) (by kernel_rfl) (by (exact Ent.rfl)) (⟨by omega, by omega, by omega, fun k hk => by omega, fun k hk hk2 => by omega⟩) ?_
  rintro i j ⟨h1, h2, h3, h4, h5⟩
  conv => whnf
  repeat (intro _; conv => whnf)
  conv => whnf
  repeat' (first
    | ((with_reducible refine Bt.raw ?_); conv => whnf)
    | (first | ((with_reducible refine Ar.i64 ?_ ?_); (focus omega); conv => whnf) | ((with_reducible refine Ar.u64 ?_ ?_); (focus omega); conv => whnf))
    | ((with_reducible refine Nd.mk ?_ ?_); (focus (first | omega | rfl | assumption | (simp; done))); conv => whnf)
    | ((with_reducible refine Ix.ad ?_ ?_ ?_); (focus (assumption)); (focus (omega)); conv => whnf)
    | ((apply LdN.rd); (focus ((repeat ((refine Rd.own 0 rfl ?_); (exact Ad.mono (by assumption) (by (omega))))); done)); (focus rfl); (focus rfl); (focus (omega)); conv => whnf)
    | ((with_reducible refine Dr.by (id := 17) Tryz.tysOk rfl [(0, 0), (1, 0), (2, 0), (3, 0), (5, 0), (6, 0), (7, 0), (4, 1), (8, 1), (9, 3), (10, 0), (11, 0)] ?_ ?_); (focus kernel_rfl); conv => whnf)
    | ((with_reducible refine Cl.is (Tryz.sortedCmp _ _ _ _ _) ?_); conv => whnf)
    | ((rw [shr_one]); conv => whnf)
    | (first | ((with_reducible refine Br.ds (fun _ => ?_) (fun _ => ?_) ) <;> (conv => whnf)) | ((with_reducible refine Br.nds (fun _ => ?_) (fun _ => ?_) ) <;> (conv => whnf))))
  · rename_i hlt hc
    rw [spC_lt, hx, hb ((i + j) / 2) (((i + j) / 2 - p).toNat) (by omega) (by omega)] at hc
    refine ⟨(i + j) / 2 + 1, j, by kernel_rfl, by (exact Ent.rfl), ⟨by omega, by omega, by omega, fun k hk => leS_trans (srt_get sA (by omega) (by omega)) hc, h5⟩, by omega⟩
  · rename_i hlt hc
    rw [spC_lt, hx, hb ((i + j) / 2) (((i + j) / 2 - p).toNat) (by omega) (by omega)] at hc
    refine ⟨i, (i + j) / 2, by kernel_rfl, by (exact Ent.rfl), ⟨by omega, by omega, by omega, h4, fun k hk hk2 => leS_trans (ltS_leS hc) (srt_get sA (by omega) (by omega))⟩, by omega⟩
  · have hij : j = i := by omega
    subst hij
    obtain ⟨A1, A2, rfl, hA1⟩ : ∃ A1 A2, A = A1 ++ A2 ∧ A1.length = (j - p).toNat := ⟨A.take (j - p).toNat, A.drop (j - p).toNat, by simp, by rw [List.length_take]; omega⟩
    have f1 : ∀ y ∈ A1, leS y x := (all_iff spE.d).2 fun k hk => by
      have := h4 k (by omega)
      rwa [getD_left hk] at this
    have f2 : ∀ y ∈ A2, leS x y := (all_iff spE.d).2 fun k hk => by
      have := h5 (A1.length + k) (by simp; omega) (by omega)
      rwa [getD_right] at this
    have lA' : (A1 ++ A2).length = A1.length + A2.length := by simp
    have hc0 : P ++ (A1 ++ A2) ++ [x] ++ Q = P ++ A1 ++ (A2 ++ x :: ([] ++ Q)) := by simp
    rw [hc0]
    conv => whnf
    refine Lp.by3 Tryz.tysOk [17] (fun (z : Int) (T U : List Sp) => [.int .i64 z]) (fun z T U => own spE t a c (P ++ A1 ++ (T ++ x :: (U ++ Q))) :: L) (fun z T U => z = p + (A1.length : Int) + (T.length : Int) ∧ T ++ U = A2) (fun z T U => T.length) (q) (A2) ([]) (by kernel_rfl) (by (exact Ent.rfl)) (⟨by omega, by simp⟩) ?_
    rintro z T U ⟨g1, g2⟩
    conv => whnf
    repeat (intro _; conv => whnf)
    have gl := congrArg List.length g2
    simp only [List.length_append] at gl
    rcases nil_or_snoc T with rfl | ⟨T, y, rfl⟩
    · have e0 : ((([] : List Sp).length : Nat) : Int) = 0 := rfl
      conv => whnf
      repeat' ((with_reducible refine Br.df ?_ ?_); (focus (first | assumption | omega)); conv => whnf)
      refine Turns.of _ ⟨A1 ++ x :: A2, ?_, (merge_one sA f1 f2).1.trans List.perm_append_comm, (merge_one sA f1 f2).2⟩ Ent.rfl
      rw [← g2]; simp
    · have e2 : (T ++ [y]).length = T.length + 1 := by simp
      have hF : P ++ A1 ++ (T ++ [y] ++ x :: (U ++ Q)) = (P ++ A1 ++ T) ++ y :: x :: (U ++ Q) := by simp
      rw [hF]
      have d1 : ((P ++ A1 ++ T) ++ y :: x :: (U ++ Q)).getD z.toNat spE.d = x := adj_hi (by simp; omega)
      have d2 : ((P ++ A1 ++ T) ++ y :: x :: (U ++ Q)).getD (z - 1).toNat spE.d = y := getD_mid (by simp; omega)
      conv => whnf
      repeat' (first
        | ((with_reducible refine Br.dt ?_ ?_); (focus (first | assumption | omega)); conv => whnf)
        | ((with_reducible refine Ar.i64 ?_ ?_); (focus omega); conv => whnf)
        | ((with_reducible refine Nd.mk ?_ ?_); (focus (first | omega | rfl | assumption | (simp; done))); conv => whnf)
        | ((with_reducible refine Ix.ad ?_ ?_ ?_); (focus (assumption)); (focus (omega)); conv => whnf)
        | ((apply LdN.rd); (focus ((repeat ((refine Rd.own 0 rfl ?_); (exact Ad.mono (by assumption) (by (simp only [List.length_set, List.length_append, List.length_take, List.length_drop, List.length_cons, List.length_nil] at *; omega))))); done)); (focus rfl); (focus rfl); (focus (simp only [List.length_set, List.length_append, List.length_take, List.length_drop, List.length_cons, List.length_nil] at *; omega)); conv => whnf)
        | ((with_reducible refine Dr.by (id := 23) Tryz.tysOk rfl [(0, 0), (1, 0), (2, 0), (3, 0), (4, 0), (5, 0), (6, 0), (7, 0), (8, 0), (10, 0), (11, 0), (12, 0), (9, 1), (13, 1), (14, 0), (15, 3), (16, 0), (17, 3)] ?_ ?_); (focus kernel_rfl); conv => whnf)
        | ((rw [d1, d2]); conv => whnf)
        | ((refine St.own0 0 rfl rfl ?_ (_, _) rfl (by exact Nat.le_of_ble_eq_true rfl) rfl ?_; (focus (simp only [List.length_set, List.length_append, List.length_take, List.length_drop, List.length_cons, List.length_nil] at *; omega))); conv => whnf))
      refine ⟨z - 1, T, y :: U, by kernel_rfl, Ent.of_eq ?_, ⟨by omega, by rw [← g2]; simp⟩, by rw [e2]; omega⟩
      try simp only [List.set_cons_zero]
      rw [adj_set (by simp; omega) (by simp; omega)]
      simp
end Go.Proofs
