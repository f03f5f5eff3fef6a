/- The library's merging in place, of spans: any two rows. -/
import Derived.Test.YtaacolkdlmfifaaGreatSortC
set_option linter.all false
namespace Go.Proofs
open Go.Eng
set_option linter.unusedVariables false
set_option maxRecDepth 100000

theorem srt_cat {A B : List Sp} (hA : Srt A) (hB : Srt B) (h : A.length = 0 ∨ B.length = 0) : Srt (A ++ B) := by
  rcases h with h | h
  · rw [List.eq_nil_of_length_eq_zero h]; exact hB
  · rw [List.eq_nil_of_length_eq_zero h, List.append_nil]; exact hA
theorem cat_swap {P A1 A2 B1 B2 Q : List Sp} (h : A2.length = 0 ∨ B1.length = 0) : P ++ (A1 ++ A2) ++ (B1 ++ B2) ++ Q = P ++ A1 ++ B1 ++ A2 ++ (B2 ++ Q) := by
  rcases h with h | h
  · rw [List.eq_nil_of_length_eq_zero h]; simp
  · rw [List.eq_nil_of_length_eq_zero h]; simp
set_option maxHeartbeats 16000000 in
theorem Tryz.symMerge (a : Option Addr) (c : Nat) (L : List HP) (t : TypeId) (n : Nat) (hl : n ≤ 1099511627776) (had : Ad a n) : ∀ (N : Nat) (zs P A B Q : List Sp) (p q r : Int), zs = P ++ A ++ B ++ Q → A.length + B.length ≤ N → A ≠ [] → B ≠ [] → Srt A → Srt B →
    n = (P ++ A ++ B ++ Q).length → p = P.length → q = (P.length + A.length : Nat) → r = (P.length + A.length + B.length : Nat) →
    Con Tryz.prog 108 [.slice a n c, .int .i64 p, .int .i64 q, .int .i64 r, cmpV] (own spE t a c zs :: L)
      (Turns spE t a c (Merged P A B Q) L) := by
  intro N
  induction N with
  | zero => intro zs P A B Q p q r hz h hA; exact (hA (List.eq_nil_of_length_eq_zero (by omega))).elim
  | succ N ih =>
  intro zs P A B Q p q r hz hN hA hB sA sB hn hp hq hr
  by_cases c1 : A.length = 1
  · exact Tryz.symMerge1 a c L t n hl had zs P A B Q p q r hz hA hB sA sB hn hp hq hr c1
  by_cases c2 : B.length = 1
  · exact Tryz.symMerge2 a c L t n hl had zs P A B Q p q r hz hA hB sA sB hn hp hq hr c1 c2
  subst hz
  have hlen : n = P.length + A.length + B.length + Q.length := by rw [hn]; simp; omega
  have lA := List.length_pos_iff.2 hA
  have lB := List.length_pos_iff.2 hB
  obtain ⟨d, hd⟩ : ∃ d, d = (p + r) / 2 := ⟨_, rfl⟩
  obtain ⟨lo, hi, hlh⟩ : ∃ lo hi : Int, (d < q ∧ lo = d + q - r ∧ hi = d) ∨ (q ≤ d ∧ lo = p ∧ hi = q) := by
    by_cases h : d < q
    · exact ⟨_, _, .inl ⟨h, rfl, rfl⟩⟩
    · exact ⟨_, _, .inr ⟨by omega, rfl, rfl⟩⟩
  have ha : ∀ (z : Int) (k : Nat), z = (P.length : Int) + k → k < A.length → (P ++ A ++ B ++ Q).getD z.toNat spE.d = A.getD k spE.d := fun z k hz hk => by
    rw [List.append_assoc]
    exact getD_app (by omega) hk
  have hb : ∀ (z : Int) (k : Nat), z = (P.length : Int) + A.length + k → k < B.length → (P ++ A ++ B ++ Q).getD z.toNat spE.d = B.getD k spE.d := fun z k hz hk => by
    exact getD_app (by simp; omega) hk
  refine con_of Tryz.tysOk Tryz.func108 rfl rfl ?_
  conv => whnf
  repeat' (first
    | ((with_reducible refine Br.df ?_ ?_); (focus (first | assumption | omega)); conv => whnf)
    | ((with_reducible refine Bt.raw ?_); conv => whnf)
    | (first | ((with_reducible refine Ar.i64 ?_ ?_); (focus omega); conv => whnf) | ((with_reducible refine Ar.u64 ?_ ?_); (focus omega); conv => whnf))
    | ((with_reducible refine Nd.mk ?_ ?_); (focus (first | omega | rfl | assumption | (simp; done))); conv => whnf)
    | ((rw [shr_one, ← hd]); conv => whnf)
    | ((with_reducible refine Br.ds (fun _ => ?_) (fun _ => ?_) ) <;> (conv => whnf)))
  focus refine Lp.by2 Tryz.tysOk [20, 21] (fun (i j : Int) => [.int .i64 i, .int .i64 j]) (fun i j => own spE t a c (P ++ A ++ B ++ Q) :: L) (fun i j => lo ≤ i ∧ i ≤ j ∧ j ≤ hi ∧ (i = lo ∨ leS (A.getD (i - 1 - p).toNat spE.d) (B.getD (d - i).toNat spE.d)) ∧ (j = hi ∨ ltS (B.getD (d - 1 - j).toNat spE.d) (A.getD (j - p).toNat spE.d))) (fun i j => (j - i).toNat) (d + q - r) (d) (by kernel_rfl) (by (exact Ent.rfl)) ⟨by omega, by omega, by omega, .inl (by omega), .inl (by omega)⟩ ?_
  rotate_left
  focus refine Lp.by2 Tryz.tysOk [20, 21] (fun (i j : Int) => [.int .i64 i, .int .i64 j]) (fun i j => own spE t a c (P ++ A ++ B ++ Q) :: L) (fun i j => lo ≤ i ∧ i ≤ j ∧ j ≤ hi ∧ (i = lo ∨ leS (A.getD (i - 1 - p).toNat spE.d) (B.getD (d - i).toNat spE.d)) ∧ (j = hi ∨ ltS (B.getD (d - 1 - j).toNat spE.d) (A.getD (j - p).toNat spE.d))) (fun i j => (j - i).toNat) (p) (q) (by kernel_rfl) (by (exact Ent.rfl)) ⟨by omega, by omega, by omega, .inl (by omega), .inl (by omega)⟩ ?_
  rotate_left
  all_goals
    rintro i j ⟨h1, h2, h3, h4, h5⟩
    conv => whnf
    repeat (intro _; conv => whnf)
    by_cases hij : i < j
    · have d1 : (P ++ A ++ B ++ Q).getD ((i + j) / 2).toNat spE.d = A.getD ((i + j) / 2 - p).toNat spE.d := ha _ _ (by omega) (by omega)
      have d2 : (P ++ A ++ B ++ Q).getD (d + q - 1 - (i + j) / 2).toNat spE.d = B.getD (d - 1 - (i + j) / 2).toNat spE.d := hb _ _ (by omega) (by omega)
      conv => whnf
      repeat' (first
        | ((with_reducible refine Br.dt ?_ ?_); (focus (first | assumption | omega)); conv => whnf)
        | ((with_reducible refine Bt.raw ?_); conv => whnf)
        | (first | ((with_reducible refine Ar.i64 ?_ ?_); (focus omega); conv => whnf) | ((with_reducible refine Ar.u64 ?_ ?_); (focus omega); conv => whnf))
        | ((with_reducible refine Nd.mk ?_ ?_); (focus (first | omega | rfl | assumption | (simp; done))); conv => whnf)
        | ((with_reducible refine Ix.ad ?_ ?_ ?_); (focus (assumption)); (focus (omega)); conv => whnf)
        | ((apply LdN.rd); (focus ((repeat ((refine Rd.own 0 rfl ?_); (exact Ad.mono (by assumption) (by (omega))))); done)); (focus rfl); (focus rfl); (focus (omega)); conv => whnf)
        | ((with_reducible refine Dr.by (id := 35) Tryz.tysOk rfl [(0, 0), (1, 0), (2, 0), (3, 0), (4, 0), (5, 0), (7, 0), (8, 0), (9, 0), (6, 1), (10, 1), (11, 3), (12, 0), (13, 0)] ?_ ?_); (focus kernel_rfl); conv => whnf)
        | ((with_reducible refine Cl.is (Tryz.sortedCmp _ _ _ _ _) ?_); conv => whnf)
        | ((rw [shr_one]); conv => whnf)
        | ((rw [d1, d2]); conv => whnf)
        | ((with_reducible refine Br.nds (fun _ => ?_) (fun _ => ?_) ) <;> (conv => whnf)))
      · rename_i hc
        rw [spC_lt] at hc
        refine ⟨(i + j) / 2 + 1, j, by kernel_rfl, Ent.rfl, ⟨by omega, by omega, by omega, .inr ?_, h5⟩, by omega⟩
        rw [show (i + j) / 2 + 1 - 1 - p = (i + j) / 2 - p from by omega, show d - ((i + j) / 2 + 1) = d - 1 - (i + j) / 2 from by omega]
        exact hc
      · rename_i hc
        rw [spC_lt] at hc
        exact ⟨i, (i + j) / 2, by kernel_rfl, Ent.rfl, ⟨by omega, by omega, by omega, h4, .inr hc⟩, by omega⟩
    · have hji : j = i := by omega
      subst hji
      obtain ⟨A1, A2, rfl, hA1⟩ : ∃ A1 A2, A = A1 ++ A2 ∧ A1.length = (j - p).toNat := ⟨A.take (j - p).toNat, A.drop (j - p).toNat, by simp, by rw [List.length_take]; omega⟩
      obtain ⟨B1, B2, rfl, hB1⟩ : ∃ B1 B2, B = B1 ++ B2 ∧ B1.length = (d - j).toNat := ⟨B.take (d - j).toNat, B.drop (d - j).toNat, by simp, by rw [List.length_take]; omega⟩
      have lA' : (A1 ++ A2).length = A1.length + A2.length := by simp
      have lB' : (B1 ++ B2).length = B1.length + B2.length := by simp
      have sA' := List.pairwise_append.1 sA
      have sB' := List.pairwise_append.1 sB
      have hx : ∀ x ∈ A1 ++ B1, ∀ y ∈ A2 ++ B2, leS x y := by
        intro x hx y hy
        rcases List.mem_append.1 hx with hx | hx <;> rcases List.mem_append.1 hy with hy | hy
        · exact sA'.2.2 x hx y hy
        · have m1 := List.length_pos_of_mem hx
          have m2 := List.length_pos_of_mem hy
          rcases h4 with h4 | h4
          · omega
          · exact leS_trans (leS_trans (le_last sA (by omega) x hx) h4) (ge_first sB (by omega) y hy)
        · have m1 := List.length_pos_of_mem hx
          have m2 := List.length_pos_of_mem hy
          rcases h5 with h5 | h5
          · omega
          · exact leS_trans (leS_trans (le_last sB (by omega) x hx) (ltS_leS h5)) (ge_first sA (by omega) y hy)
        · exact sB'.2.2 x hx y hy
      clear ha hb h4 h5
      have ij : j = p + (A1.length : Int) := by omega
      have qj : q = j + (A2.length : Int) := by omega
      have ej : d + q - j = q + (B1.length : Int) := by omega
      have rj : r = d + q - j + (B2.length : Int) := by omega
      have dj : d = p + (A1.length : Int) + (B1.length : Int) := by omega
      by_cases cr : A2.length = 0 ∨ B1.length = 0 <;> by_cases cl : A1.length = 0 ∨ B1.length = 0 <;> by_cases cR : A2.length = 0 ∨ B2.length = 0
      all_goals first | (exfalso; omega) | skip
      all_goals
        (try rw [cat_swap cr])
        conv => whnf
        repeat' (first
          | (first | ((with_reducible refine Br.tt ?_); conv => whnf) | ((with_reducible refine Br.ff ?_); conv => whnf) | ((with_reducible refine Br.dt ?_ ?_); (focus (first | assumption | omega)); conv => whnf) | ((with_reducible refine Br.df ?_ ?_); (focus (first | assumption | omega)); conv => whnf))
          | ((with_reducible refine Ar.i64 ?_ ?_); (focus omega); conv => whnf)
          | ((refine Cl.is (Tryz.rotate a c _ (P ++ A1) A2 B1 (B2 ++ Q) (by simp) L t cmpV n j q (d + q - j) (fun h => cr (.inl (by rw [h]; rfl))) (fun h => cr (.inr (by rw [h]; rfl))) (by rw [hlen]; simp; omega) (by simp; omega) (by simp; omega) (by simp; omega) hl had) ?_); conv => whnf)
          | ((refine Cl.turns (ih _ P A1 B1 (A2 ++ (B2 ++ Q)) p j d (by simp) (by omega) (fun h => cl (.inl (by rw [h]; rfl))) (fun h => cl (.inr (by rw [h]; rfl))) sA'.1 sB'.1 (by rw [hlen]; simp; omega) hp (by omega) (by omega)) (fun ys hys => ?_); obtain ⟨C1, rfl, k1, k2⟩ := hys; have k3 := k1.length_eq; rw [List.length_append] at k3); conv => whnf)
          | ((refine Cl.turns (ih _ (P ++ C1) A2 B2 Q d (d + q - j) r (by simp) (by omega) (fun h => cR (.inl (by rw [h]; rfl))) (fun h => cR (.inr (by rw [h]; rfl))) sA'.2.1 sB'.2.1 (by rw [hlen]; simp; omega) (by simp; omega) (by simp; omega) (by simp; omega)) (fun ys hys => ?_); obtain ⟨C2, rfl, m1, m2⟩ := hys); conv => whnf)
          | ((refine Cl.turns (ih _ (P ++ (A1 ++ B1)) A2 B2 Q d (d + q - j) r (by simp) (by omega) (fun h => cR (.inl (by rw [h]; rfl))) (fun h => cR (.inr (by rw [h]; rfl))) sA'.2.1 sB'.2.1 (by rw [hlen]; simp; omega) (by simp; omega) (by simp; omega) (by simp; omega)) (fun ys hys => ?_); obtain ⟨C2, rfl, m1, m2⟩ := hys); conv => whnf))
        first
          | exact Turns.of _ (mg_end (by simp) k1 k2 m1 m2 hx) Ent.rfl
          | exact Turns.of _ (mg_end (C2 := A2 ++ B2) (by simp) k1 k2 (.refl _) (srt_cat sA'.2.1 sB'.2.1 cR) hx) Ent.rfl
          | exact Turns.of _ (mg_end (C1 := A1 ++ B1) (by simp) (.refl _) (srt_cat sA'.1 sB'.1 cl) m1 m2 hx) Ent.rfl
          | exact Turns.of _ (mg_end (C1 := A1 ++ B1) (C2 := A2 ++ B2) (by simp) (.refl _) (srt_cat sA'.1 sB'.1 cl) (.refl _) (srt_cat sA'.2.1 sB'.2.1 cR) hx) Ent.rfl
end Go.Proofs
