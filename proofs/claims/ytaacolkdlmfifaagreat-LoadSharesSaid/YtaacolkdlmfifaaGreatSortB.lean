/- The library's insertion sort, of spans. -/
import Derived.Test.YtaacolkdlmfifaaGreatSort
set_option linter.all false
namespace Go.Proofs
open Go.Eng
set_option linter.unusedVariables false
set_option maxRecDepth 100000

abbrev Srt (xs : List Sp) : Prop := xs.Pairwise leS
theorem nil_or_snoc {α : Type} (l : List α) : l = [] ∨ ∃ l' y, l = l' ++ [y] := by
  rcases List.eq_nil_or_concat l with h | ⟨l', y, h⟩
  · exact .inl h
  · exact .inr ⟨l', y, by rw [h, List.concat_eq_append]⟩
theorem leS_trans {x y z : Sp} (h : leS x y) (g : leS y z) : leS x z := by unfold leS ltS at *; omega
theorem ins_sorted {S T : List Sp} {x : Sp} (h : Srt (S ++ T)) (h2 : ∀ y ∈ T, leS x y) (h1 : ∀ y ∈ S, leS y x) : Srt (S ++ x :: T) := by
  have h := List.pairwise_append.1 h
  refine List.pairwise_append.2 ⟨h.1, List.pairwise_cons.2 ⟨h2, h.2.1⟩, fun a ha b hb => ?_⟩
  rcases List.mem_cons.1 hb with rfl | hb
  · exact h1 a ha
  · exact h.2.2 a ha b hb
theorem srt_last {S : List Sp} {x y : Sp} (h : Srt (S ++ [y])) (hy : leS y x) : ∀ z ∈ S ++ [y], leS z x := by
  intro z hz
  have h := List.pairwise_append.1 h
  rcases List.mem_append.1 hz with hz | hz
  · exact leS_trans (h.2.2 z hz y (by simp)) hy
  · rw [List.mem_singleton] at hz; subst hz; exact hy
theorem adj_hi {F G : List Sp} {x y d : Sp} {j : Nat} (h : j = F.length + 1) : (F ++ y :: x :: G).getD j d = x := by
  have e : F ++ y :: x :: G = (F ++ [y]) ++ x :: G := by simp
  rw [e]; exact getD_mid (by simp [h])
theorem adj_set {F G : List Sp} {x y u v : Sp} {j i : Nat} (hj : j = F.length + 1) (hi : i = F.length) : ((F ++ y :: x :: G).set j u).set i v = F ++ v :: u :: G := by
  have e : F ++ y :: x :: G = (F ++ [y]) ++ x :: G := by simp
  rw [e, set_mid (by simp [hj])]
  have e2 : (F ++ [y]) ++ u :: G = F ++ y :: (u :: G) := by simp
  rw [e2, set_mid hi]

theorem Tryz.insertionSort (a : Option Addr) (c : Nat) (P A Q : List Sp) (L : List HP) (t : TypeId) (n : Nat) (p q : Int)
    (hn : n = (P ++ A ++ Q).length) (hp : p = P.length) (hq : q = (P.length + A.length : Nat)) (hl : n ≤ 1099511627776) (had : Ad a n) :
    Con Tryz.prog 107 [.slice a n c, .int .i64 p, .int .i64 q, .func (.func 94) #[] #[]] (own spE t a c (P ++ A ++ Q) :: L)
      (Turns spE t a c (fun ys => ∃ B, ys = P ++ B ++ Q ∧ B.Perm A ∧ Srt B) L) := by
  have hlen : n = P.length + A.length + Q.length := by rw [hn]; simp; omega
  refine con_of Tryz.tysOk Tryz.func107 rfl rfl ?_
  conv => whnf
  repeat' ((with_reducible refine Ar.i64 ?_ ?_); (focus omega); conv => whnf)
  rw [show p + 1 = p + 1 + (0 : Nat) from by omega]
  conv => whnf
  refine Lp.by2 Tryz.tysOk [8] (fun (k : Nat) (B : List Sp) => [.int .i64 (p + 1 + k)]) (fun k B => own spE t a c (P ++ B ++ Q) :: L) (fun k B => B.Perm A ∧ Srt (B.take (k + 1)) ∧ (k + 1 ≤ A.length ∨ k = 0)) (fun k B => A.length - k) (0) (A) (by kernel_rfl) (by (exact Ent.rfl)) (⟨List.Perm.refl _, by rcases A with _ | ⟨x, A⟩ <;> simp, .inr rfl⟩) ?_
  rintro k B ⟨h1, h2, h3⟩
  conv => whnf
  repeat (intro _; conv => whnf)
  have hBl := h1.length_eq
  conv => whnf
  repeat' ((with_reducible refine Br.ds (fun _ => ?_) (fun _ => ?_) ) <;> (conv => whnf))
  · -- a round
    have hk : k + 1 < B.length := by omega
    obtain ⟨S, x, R, rfl, hS⟩ : ∃ S x R, B = S ++ x :: R ∧ S.length = k + 1 := ⟨B.take (k + 1), B[k + 1], B.drop (k + 2), by simp, by rw [List.length_take]; omega⟩
    rw [← hS, List.take_left] at h2
    rw [show p + 1 + (k : Int) = p + (S.length : Int) from by omega]
    conv => whnf
    refine Lp.by2 Tryz.tysOk [9] (fun (S1 S2 : List Sp) => [.int .i64 (p + (S1.length : Int))]) (fun S1 S2 => own spE t a c (P ++ (S1 ++ x :: (S2 ++ R)) ++ Q) :: L) (fun S1 S2 => S1 ++ S2 = S ∧ ∀ y ∈ S2, leS x y) (fun S1 S2 => S1.length) (S) ([]) (by kernel_rfl) (by (exact Ent.rfl)) (⟨by simp, by simp⟩) ?_
    rintro S1 S2 ⟨g1, g2⟩
    conv => whnf
    repeat (intro _; conv => whnf)
    have hSl := congrArg List.length g1
    simp only [List.length_append, List.length_cons] at hSl hBl
    have hout : (∀ y ∈ S1, leS y x) → (S1 ++ x :: (S2 ++ R)).Perm A ∧ Srt ((S1 ++ x :: (S2 ++ R)).take (k + 1 + 1)) := fun g3 => by
      refine ⟨.trans ?_ h1, ?_⟩
      · rw [← g1]
        have : (S1 ++ x :: (S2 ++ R)).Perm (x :: (S1 ++ (S2 ++ R))) := List.perm_middle
        refine this.trans ?_
        rw [← List.append_assoc]
        exact List.perm_middle.symm
      · have e : S1 ++ x :: (S2 ++ R) = (S1 ++ x :: S2) ++ R := by simp
        rw [e, List.take_left' (by simp; omega)]
        exact ins_sorted (by rw [g1]; exact h2) g2 g3
    rcases nil_or_snoc S1 with rfl | ⟨S1', y, rfl⟩
    · have e0 : ((([] : List Sp).length : Nat) : Int) = 0 := rfl
      obtain ⟨q1, q2⟩ := hout (by simp)
      conv => whnf
      repeat' (first
        | (first | ((with_reducible refine Br.ff ?_); conv => whnf) | ((with_reducible refine Br.df ?_ ?_); (focus (first | assumption | omega)); conv => whnf))
        | ((with_reducible refine Ar.i64 ?_ ?_); (focus omega); conv => whnf)
        | ((with_reducible refine Dr.by (id := 4) Tryz.tysOk rfl [(0, 0), (1, 0), (2, 0), (3, 0), (4, 0), (5, 0), (6, 0), (7, 0), (9, 0), (10, 0), (11, 0), (12, 0), (8, 1), (13, 1), (14, 1), (15, 0), (16, 0)] ?_ ?_); (focus kernel_rfl); conv => whnf))
      rw [show p + (S.length : Int) + 1 = p + 1 + ((k + 1 : Nat) : Int) from by omega]
      refine ⟨k + 1, _, by kernel_rfl, by (exact Ent.rfl), ⟨q1, q2, .inl (by omega)⟩, by omega⟩
    · have e1 : (S1' ++ [y]).length = S1'.length + 1 := by simp
      have hF : P ++ (S1' ++ [y] ++ x :: (S2 ++ R)) ++ Q = (P ++ S1') ++ y :: x :: (S2 ++ R ++ Q) := by simp
      rw [hF]
      have d1 : ((P ++ S1') ++ y :: x :: (S2 ++ R ++ Q)).getD (p + ((S1' ++ [y]).length : Int)).toNat spE.d = x := adj_hi (by rw [hp, e1]; simp; omega)
      have d2 : ((P ++ S1') ++ y :: x :: (S2 ++ R ++ Q)).getD (p + ((S1' ++ [y]).length : Int) - 1).toNat spE.d = y := getD_mid (by rw [hp, e1]; simp; omega)
      conv => whnf
      repeat' (first
        | (first | ((with_reducible refine Br.tt ?_); conv => whnf) | ((with_reducible refine Br.dt ?_ ?_); (focus (first | assumption | omega)); conv => whnf))
        | ((with_reducible refine Ar.i64 ?_ ?_); (focus omega); conv => whnf)
        | ((with_reducible refine Nd.mk ?_ ?_); (focus (first | omega | rfl | assumption | (simp; done))); conv => whnf)
        | ((with_reducible refine Ix.ad ?_ ?_ ?_); (focus (assumption)); (focus (omega)); conv => whnf)
        | ((apply LdN.rd); (focus ((repeat ((refine Rd.own 0 rfl ?_); (exact Ad.mono (by assumption) (by (simp only [List.length_set, List.length_append, List.length_take, List.length_drop, List.length_cons, List.length_nil] at *; omega))))); done)); (focus rfl); (focus rfl); (focus (simp only [List.length_set, List.length_append, List.length_take, List.length_drop, List.length_cons, List.length_nil] at *; omega)); conv => whnf)
        | ((with_reducible refine Dr.by (id := 4) Tryz.tysOk rfl [(0, 0), (1, 0), (2, 0), (3, 0), (4, 0), (5, 0), (6, 0), (7, 0), (9, 0), (10, 0), (11, 0), (12, 0), (8, 1), (13, 1), (14, 1), (15, 0), (16, 0)] ?_ ?_); (focus kernel_rfl); conv => whnf)
        | ((with_reducible refine Dr.by (id := 6) Tryz.tysOk rfl [(0, 0), (1, 0), (2, 0), (3, 0), (4, 0), (5, 0), (6, 0), (7, 0), (8, 0), (10, 0), (11, 0), (12, 0), (9, 1), (13, 1), (14, 0), (15, 3), (16, 0), (17, 3)] ?_ ?_); (focus kernel_rfl); conv => whnf)
        | ((with_reducible refine CD.is (fun M => Tryz.sortedCmp _ _ _ _ _) ?_); conv => whnf)
        | ((rw [d1, d2]); conv => whnf)
        | ((refine St.own0 0 rfl rfl ?_ (_, _) rfl (by exact Nat.le_of_ble_eq_true rfl) rfl ?_; (focus (simp only [List.length_set, List.length_append, List.length_take, List.length_drop, List.length_cons, List.length_nil] at *; omega))); conv => whnf)
        | ((with_reducible refine Br.ds (fun _ => ?_) (fun _ => ?_) ) <;> (conv => whnf)))
      · rename_i hlt
        rw [spC_lt] at hlt
        rw [show p + ((S1' ++ [y]).length : Int) - 1 = p + (S1'.length : Int) from by omega]
        refine ⟨S1', y :: S2, by kernel_rfl, Ent.of_eq ?_, ⟨by rw [← g1]; simp, fun z hz => ?_⟩, by rw [e1]; omega⟩
        · try simp only [List.set_cons_zero]
          rw [adj_set (by rw [hp, e1]; simp; omega) (by rw [hp]; simp; omega)]
          simp
        · rcases List.mem_cons.1 hz with rfl | hz
          · unfold leS ltS at *; simp only at hlt; omega
          · exact g2 z hz
      · rename_i hlt
        rw [spC_lt] at hlt
        obtain ⟨q1, q2⟩ := hout (srt_last (by rw [← g1] at h2; exact (List.pairwise_append.1 h2).1) hlt)
        rw [show p + (S.length : Int) + 1 = p + 1 + ((k + 1 : Nat) : Int) from by omega, ← hF]
        refine ⟨k + 1, _, by kernel_rfl, by (exact Ent.rfl), ⟨q1, q2, .inl (by omega)⟩, by omega⟩
  · refine Turns.of _ ⟨B, rfl, h1, ?_⟩ Ent.rfl
    rwa [List.take_of_length_le (by omega)] at h2
end Go.Proofs
