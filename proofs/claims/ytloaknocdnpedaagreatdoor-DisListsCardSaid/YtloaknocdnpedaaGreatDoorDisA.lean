/- Numbers' names: contracts. -/
import Derived.Test.YtloaknocdnpedaaGreatDoorLib
import Derived.Test.YtloaknocdnpedaaGreatDoorEngMap
import Derived.Test.YtloaknocdnpedaaGreatDoorCode
set_option linter.all false
namespace Go.Proofs
open Go.Eng
open Classical
set_option linter.unusedVariables false
set_option maxRecDepth 100000
set_option maxHeartbeats 2000000
/-- a number's name -/
def nm (n : Nat) : List UInt8 := if h : n < 26 then [u8of (97 + n)] else nm (n / 26 - 1) ++ [u8of (97 + (n % 26 : Nat))]
termination_by n
decreasing_by omega
theorem nm_low {n : Nat} (h : n < 26) : nm n = [u8of (97 + (n % 26 : Nat))] := by
  rw [nm, dif_pos h, Nat.mod_eq_of_lt h]
theorem nm_high {n : Nat} (h : ¬ n < 26) : nm n = nm (n / 26 - 1) ++ [u8of (97 + (n % 26 : Nat))] := by
  conv => lhs; rw [nm]
  rw [dif_neg h]
theorem nm_ne (n : Nat) : nm n ≠ [] := by
  by_cases h : n < 26
  · rw [nm_low h]; simp
  · rw [nm_high h]; simp
theorem u8of_let {x y : Nat} (hx : x < 26) (hy : y < 26) (h : u8of (97 + (x : Int)) = u8of (97 + (y : Int))) : x = y := by
  have e1 := u8of_int (97 + (x : Int))
  have e2 := u8of_int (97 + (y : Int))
  rw [h] at e1
  omega
theorem nm_inj : ∀ (n m : Nat), nm n = nm m → n = m := by
  intro n
  induction n using Nat.strongRecOn with
  | _ n ih =>
    intro m h
    have hl : ∀ k : Nat, ∃ p, nm k = p ++ [u8of (97 + (k % 26 : Nat))] ∧ (p = [] ↔ k < 26) ∧ (¬ k < 26 → p = nm (k / 26 - 1)) := by
      intro k
      by_cases hk : k < 26
      · exact ⟨[], nm_low hk, ⟨fun _ => hk, fun _ => rfl⟩, fun h => absurd hk h⟩
      · exact ⟨_, nm_high hk, ⟨fun h => absurd h (nm_ne _), fun h => absurd h hk⟩, fun _ => rfl⟩
    obtain ⟨p, hp, hp1, hp2⟩ := hl n
    obtain ⟨q, hq, hq1, hq2⟩ := hl m
    rw [hp, hq] at h
    obtain ⟨hpq, hlast⟩ := List.append_inj' h rfl
    have hmod := u8of_let (Nat.mod_lt n (by omega)) (Nat.mod_lt m (by omega)) (by simpa using hlast)
    by_cases hn : n < 26
    · have hm : m < 26 := hq1.1 (hpq ▸ hp1.2 hn)
      omega
    · have hm : ¬ m < 26 := fun h => hn (hp1.1 (hpq ▸ hq1.2 h))
      have e := hp2 hn
      rw [hpq, hq2 hm] at e
      have := ih (n / 26 - 1) (by omega) (m / 26 - 1) e.symm
      omega
theorem nm_len {n : Nat} (h : n ≤ 65535) : (nm n).length ≤ 100 := by
  by_cases h1 : n < 26
  · rw [nm_low h1]; simp
  · rw [nm_high h1, List.length_append]
    by_cases h2 : n / 26 - 1 < 26
    · rw [nm_low h2]; simp
    · rw [nm_high h2, List.length_append]
      by_cases h3 : (n / 26 - 1) / 26 - 1 < 26
      · rw [nm_low h3]; simp
      · rw [nm_high h3, List.length_append, nm_low (by omega)]; simp
def nmS (n : Int) : ByteArray := if 0 ≤ n ∧ n ≤ 65535 then ⟨(nm n.toNat).toArray⟩ else ⟨#[]⟩
/-- a row of bytes, turned about -/
theorem turn_step {xs ys : List UInt8} {k j : Nat} (hj : j + 1 + k = xs.length) (hk : k < j) (hl : ys.length = xs.length)
    (h : ∀ i, i < xs.length → ys.getD i 0 = if i < k ∨ xs.length ≤ i + k then xs.getD (xs.length - 1 - i) 0 else xs.getD i 0) :
    (∀ i, i < xs.length → ((ys.set k (ys.getD j 0)).set j (ys.getD k 0)).getD i 0 = if i < k + 1 ∨ xs.length ≤ i + (k + 1) then xs.getD (xs.length - 1 - i) 0 else xs.getD i 0) := by
  intro i hi
  have hjl : j < ys.length := by omega
  have hkl : k < ys.length := by omega
  have g1 := h j (by omega)
  have g2 := h k (by omega)
  have g3 := h i hi
  rw [if_neg (by omega)] at g1 g2
  by_cases hij : i = j
  · subst hij
    rw [if_pos (by omega), show xs.length - 1 - i = k from by omega, ← g2]
    simp [List.getD, hjl]
  · by_cases hik : i = k
    · subst hik
      rw [if_pos (by omega), show xs.length - 1 - i = j from by omega, ← g1]
      simp [List.getD, List.getElem?_set, hkl, Ne.symm hij]
    · have e : ((ys.set k (ys.getD j 0)).set j (ys.getD k 0)).getD i 0 = ys.getD i 0 := by
        simp [List.getD, List.getElem?_set, Ne.symm hij, Ne.symm hik]
      rw [e, g3]
      by_cases hc : i < k ∨ xs.length ≤ i + k
      · rw [if_pos hc, if_pos (by omega)]
      · rw [if_neg hc, if_neg (by omega)]
theorem turn_done {xs ys : List UInt8} {k : Nat} (hk : xs.length ≤ k + k + 1) (hl : ys.length = xs.length)
    (h : ∀ i, i < xs.length → ys.getD i 0 = if i < k ∨ xs.length ≤ i + k then xs.getD (xs.length - 1 - i) 0 else xs.getD i 0) : ys = xs.reverse := by
  refine ext_getD 0 (by rw [hl, List.length_reverse]) fun i hi => ?_
  rw [h i (by omega)]
  have e : xs.reverse.getD i 0 = xs.getD (xs.length - 1 - i) 0 := by
    simp [List.getD, List.getElem?_reverse (show i < xs.length by omega)]
  rw [e]
  split
  · rfl
  · congr 1
    omega
theorem Tryz.byReverse (a : Option Addr) (c : Nat) (xs : List UInt8) (L : List HP) (hl : xs.length ≤ 100000) (had : Ad a xs.length) : Con Tryz.prog 26 [.slice a xs.length c] (own u8E 5 a c xs :: L) (Is (.tuple #[]) (own u8E 5 a c xs.reverse :: L)) := by
  refine con_of Tryz.tysOk Tryz.func26 rfl rfl ?_
  conv => whnf
  repeat' ((with_reducible refine Ar.i64 ?_ ?_); (focus omega); conv => whnf)
  conv => whnf
  refine Lp.by3 Tryz.tysOk [2, 3] (fun (k : Nat) (j : Int) (ys : List UInt8) => [.int .i64 k, .int .i64 j]) (fun k j ys => own u8E 5 a c ys :: L) (fun k j ys => k ≤ xs.length ∧ j = xs.length - 1 - k ∧ ys.length = xs.length ∧ (∀ i, i < xs.length → ys.getD i 0 = if i < k ∨ xs.length ≤ i + k then xs.getD (xs.length - 1 - i) 0 else xs.getD i 0)) (fun k j ys => xs.length - k) (0) ((xs.length : Int) - 1) (xs) (by kernel_rfl) (by (exact Ent.rfl)) (⟨by omega, by omega, rfl, fun i hi => by rw [if_neg (by omega)]⟩) ?_
  rintro k j' ys ⟨g1, g4, g2, g3⟩
  conv => whnf
  repeat (intro _; conv => whnf)
  by_cases hk : k + k + 1 < xs.length
  · obtain ⟨j, hj⟩ : ∃ j : Nat, j + 1 + k = xs.length := ⟨xs.length - 1 - k, by omega⟩
    have hs := turn_step hj (by omega) g2 g3
    obtain rfl : j' = j := by omega
    have hjl : j < ys.length := by omega
    have hkl : k < ys.length := by omega
    have had' : Ad a ys.length := g2 ▸ had
    rw [← g2]
    conv => whnf
    repeat' (first
      | ((with_reducible refine Br.dt ?_ ?_); (focus (first | assumption | omega)); conv => whnf)
      | ((with_reducible refine Ar.i64 ?_ ?_); (focus omega); conv => whnf)
      | ((with_reducible refine Nd.mk ?_ ?_); (focus (first | omega | rfl | assumption | (simp; done))); conv => whnf)
      | ((with_reducible refine Ix.ad ?_ ?_ ?_); (focus (assumption)); (focus (omega)); conv => whnf)
      | ((with_reducible apply Ld.rdk0); (focus ((repeat ((refine Rd.own 0 rfl ?_); (assumption))); done)); (focus rfl); (focus (omega)); (focus rfl); conv => whnf)
      | ((with_reducible refine Dr.by (id := 3) Tryz.tysOk rfl [(0, 0), (1, 0), (2, 0), (3, 0), (4, 0), (5, 0), (6, 0), (8, 0), (9, 0), (10, 0), (7, 1), (11, 1), (12, 0), (13, 3), (14, 0), (15, 3)] ?_ ?_); (focus kernel_rfl); conv => whnf)
      | ((first | refine St.own0k 0 rfl rfl (by omega) (ys.getD j 0) rfl (Nat.le_refl _) rfl ?_ | refine St.own0k 0 rfl rfl (by rw [List.length_set]; omega) (ys.getD k 0) rfl (Nat.le_refl _) rfl ?_); conv => whnf))
    all_goals exact ⟨k + 1, (j : Int) - 1, (ys.set k (ys.getD j 0)).set j (ys.getD k 0), by kernel_rfl, by (exact Ent.rfl), ⟨by omega, by omega, by rw [List.length_set, List.length_set], by rw [g2]; exact hs⟩, by omega⟩
  · have e := turn_done (by omega) g2 g3
    subst e
    clear g3
    conv => whnf
    repeat' ((with_reducible refine Br.df ?_ ?_); (focus (first | assumption | omega)); conv => whnf)
    all_goals (refine Is.ent ?_ ?_; (focus (exact Ent.rfl)); (exact Is.rfl))
theorem Tryz.disName (n : Int) (L : List HP) : Con Tryz.prog 11 [.int .i64 n] L (Is (.string (nmS n)) L) := by
  unfold nmS
  by_cases hn : 0 ≤ n ∧ n ≤ 65535
  · rw [if_pos hn]
    obtain ⟨N, rfl⟩ : ∃ N : Nat, n = N := ⟨n.toNat, by omega⟩
    rw [Int.toNat_natCast]
    refine con_of Tryz.tysOk Tryz.func11 rfl rfl ?_
    conv => whnf
    repeat' (first | ((with_reducible refine Br.ff ?_); conv => whnf) | ((with_reducible refine Br.df ?_ ?_); (focus (first | assumption | omega)); conv => whnf))
    conv => whnf
    refine Lp.by3 Tryz.tysOk [0, 3] (fun (m : Nat) (v : Int) (P : Option Addr × Nat × List UInt8) => [.int .i64 v, .slice P.1 P.2.2.length P.2.1]) (fun m v P => own u8E 5 P.1 P.2.1 P.2.2 :: L) (fun m v P => v = m - 1 ∧ m + P.2.2.length ≤ 65536 ∧ ((m = 0 ∧ nm N = P.2.2.reverse) ∨ (0 < m ∧ nm N = nm (m - 1) ++ P.2.2.reverse)) ∧ (P.2.2.length ≤ P.2.1 ∧ Ad P.1 P.2.2.length)) (fun m v P => m) (N + 1) ((N : Int)) (((none, 0, []) : Option Addr × Nat × List UInt8)) (by kernel_rfl) (by (exact Ent.nil)) (⟨by omega, by simp; omega, .inr ⟨by omega, by simp⟩, ⟨by simp, fun h => absurd rfl h⟩⟩) ?_
    rintro m v ⟨a, c, ys⟩ ⟨g0, g1, g2, g3, g4⟩
    conv => whnf
    repeat (intro _; conv => whnf)
    dsimp only at g1 g2 g3 g4
    by_cases hm : 0 < m
    · obtain ⟨k, rfl⟩ : ∃ k, m = k + 1 := ⟨m - 1, by omega⟩
      have hx : nm N = nm k ++ ys.reverse := by
        rcases g2 with ⟨h, _⟩ | ⟨_, h⟩
        · omega
        · exact h
      clear g2
      obtain rfl : v = (k : Nat) := by omega
      have t1 : (k : Int).tmod 26 = ((k % 26 : Nat) : Int) := by rw [Int.tmod_eq_emod_of_nonneg (by omega)]; rfl
      have t2 : (k : Int).tdiv 26 = ((k / 26 : Nat) : Int) := by rw [Int.tdiv_eq_ediv_of_nonneg (by omega)]; rfl
      have hy : (k / 26 = 0 ∧ nm N = (ys ++ [u8of (97 + (k % 26 : Nat))]).reverse) ∨ (0 < k / 26 ∧ nm N = nm (k / 26 - 1) ++ (ys ++ [u8of (97 + (k % 26 : Nat))]).reverse) := by
        rw [List.reverse_append]
        by_cases h26 : k < 26
        · exact .inl ⟨by omega, by rw [hx, nm_low h26]; rfl⟩
        · exact .inr ⟨by omega, by rw [hx, nm_high h26, List.append_assoc]; rfl⟩
      clear hx
      conv => whnf
      repeat' (first
        | ((with_reducible refine Br.dt ?_ ?_); (focus (first | assumption | omega)); conv => whnf)
        | (first | ((with_reducible refine Ar.u8b ?_); conv => whnf) | ((with_reducible refine Ar.i64 ?_ ?_); (focus omega); conv => whnf))
        | ((with_reducible refine Nd.mk ?_ ?_); (focus (first | omega | rfl | assumption | (simp; done))); conv => whnf)
        | ((with_reducible refine Nc.go' (fun _ => ?_)); conv => whnf)
        | ((with_reducible refine (?_ : Sm _ (Builtin.append_ _ _ _) _ _)); (((with_reducible apply (Sm.appAt (E := u8E) (et := 5) Tryz.tysOk 1)); (focus rfl)); (rotate_left; (focus (exact Rd.ptc 0 rfl [_] rfl)); rotate_right; (focus rfl)); (focus rfl); (focus rfl); (focus rfl); (focus rfl); (focus rfl); (focus rfl); (focus ((simp only [List.length_append, List.length_cons, List.length_nil]); omega)); (intro _ _ _ _); conv => whnf))
        | ((rw [t1]); conv => whnf)
        | ((rw [t2]); conv => whnf))
      rename_i a5 c5 hc5 had5
      exact ⟨k / 26, ((k / 26 : Nat) : Int) - 1, (a5, c5, ys ++ [u8of (97 + (k % 26 : Nat))]), by kernel_rfl, by (try dsimp only); (refine FEnt.ent ?_; (repeat (first | exact FEnt.rfl | (refine FEnt.at 0 rfl ?_; (try simp only [List.eraseIdx_cons_zero, List.eraseIdx_cons_succ, List.eraseIdx_zero, List.tail_cons])) | refine FEnt.drop ?_)); done), ⟨rfl, by rw [List.length_append]; simp only [List.length_cons, List.length_nil]; omega, hy, hc5, had5⟩, by omega⟩
    · obtain rfl : m = 0 := by omega
      have hx : nm N = ys.reverse := by
        rcases g2 with ⟨_, h⟩ | ⟨h, _⟩
        · exact h
        · omega
      rw [hx]
      have hrv := fun L => Tryz.byReverse a c ys L (by omega) g4
      have hzl : ys.length = ys.reverse.length := (List.length_reverse).symm
      clear g2 hx
      generalize ys.reverse = zs at *
      rw [hzl] at hrv ⊢
      conv => whnf
      repeat' (first
        | ((with_reducible refine Br.df ?_ ?_); (focus (first | assumption | omega)); conv => whnf)
        | ((refine Cl.isAt 0 rfl (hrv _) ?_); conv => whnf)
        | ((with_reducible refine (?_ : Sm _ (convert _ _ _) _ _)); ((apply (Sm.b2s Tryz.tysOk)); ((focus rfl); (focus ((repeat ((refine Rd.own 0 rfl ?_); (exact Ad.mono (by assumption) (by (omega))))); done))); (focus rfl); (focus rfl); (focus rfl); (focus rfl); (focus rfl); (focus rfl); conv => whnf)))
      all_goals (refine Is.ent ?_ ?_; (focus (refine FEnt.ent ?_; (repeat (first | exact FEnt.rfl | refine FEnt.drop ?_)); done)); (exact Is.rfl))
  · rw [if_neg hn]
    refine con_of Tryz.tysOk Tryz.func11 rfl rfl ?_
    conv => whnf
    repeat' (first
      | (first | ((with_reducible refine Br.tt ?_); conv => whnf) | ((with_reducible refine Br.ff ?_); conv => whnf) | ((with_reducible refine Br.dt ?_ ?_); (focus (first | assumption | omega)); conv => whnf))
      | ((with_reducible refine Br.ds (fun _ => ?_) (fun _ => ?_) ) <;> (conv => whnf)))
    all_goals first | (refine Is.ent ?_ ?_; (focus (exact Ent.rfl)); (exact Is.rfl)) | (exfalso; omega)
theorem Tryz.refLetter (n : Nat) (L : List HP) (hn : n < 26) : Con Tryz.prog 43 [.int .i64 n] L (Is (.string ⟨#[u8of (97 + (n : Int))]⟩) L) := by
  refine con_of Tryz.tysOk Tryz.func43 rfl rfl ?_
  conv => whnf
  repeat' (first
    | (first | ((with_reducible refine Ar.u8b ?_); conv => whnf) | ((with_reducible refine Ar.i64 ?_ ?_); (focus omega); conv => whnf))
    | ((with_reducible refine Nc.go' (fun _ => ?_)); conv => whnf)
    | ((with_reducible refine (?_ : Sm _ (convert _ _ _) _ _)); ((apply (Sm.b2s Tryz.tysOk)); (rotate_left; (focus (exact Rd.ptc 0 rfl [_] rfl)); rotate_right; (focus rfl)); (focus rfl); (focus rfl); (focus rfl); (focus rfl); (focus rfl); (focus rfl); conv => whnf)))
  all_goals (refine Is.ent ?_ ?_; (focus (refine FEnt.ent ?_; (repeat (first | exact FEnt.rfl | refine FEnt.drop ?_)); done)); (exact Is.rfl))
theorem Tryz.refName (n : Nat) (hn : n ≤ 65535) : ∀ (L : List HP), Con Tryz.prog 24 [.int .i64 n] L (Is (.string ⟨(nm n).toArray⟩) L) := by
  induction n using Nat.strongRecOn with
  | _ n ih =>
    intro L
    by_cases h : n < 26
    · have hl := fun L => Tryz.refLetter n L h
      have e : nm n = [u8of (97 + (n : Int))] := by rw [nm_low h, Nat.mod_eq_of_lt h]
      rw [e]
      clear ih e
      refine con_of Tryz.tysOk Tryz.func24 rfl rfl ?_
      conv => whnf
      repeat' (first
        | ((with_reducible refine Br.dt ?_ ?_); (focus (first | assumption | omega)); conv => whnf)
        | ((with_reducible refine Cl.is (hl _) ?_); conv => whnf))
      all_goals (refine Is.ent ?_ ?_; (focus (exact Ent.rfl)); (exact Is.rfl))
    · have hl := fun L => Tryz.refLetter (n % 26) L (Nat.mod_lt n (by omega))
      have t1 : (n : Int).tmod 26 = ((n % 26 : Nat) : Int) := by rw [Int.tmod_eq_emod_of_nonneg (by omega)]; rfl
      have t2 : (n : Int).tdiv 26 = ((n / 26 : Nat) : Int) := by rw [Int.tdiv_eq_ediv_of_nonneg (by omega)]; rfl
      have hi := ih (n / 26 - 1) (by omega) (by omega)
      rw [show ((n / 26 - 1 : Nat) : Int) = ((n / 26 : Nat) : Int) - 1 from by omega] at hi
      have e : (⟨(nm n).toArray⟩ : ByteArray) = (⟨(nm (n / 26 - 1)).toArray⟩ : ByteArray) ++ (⟨#[u8of (97 + ((n % 26 : Nat) : Int))]⟩ : ByteArray) := str_ext (by rw [append_list, nm_high h])
      have hsz : (nm (n / 26 - 1)).length ≤ 100 := nm_len (by omega)
      have hz1 : (⟨(nm (n / 26 - 1)).toArray⟩ : ByteArray).size = (nm (n / 26 - 1)).length := rfl
      have hz2 : (⟨#[u8of (97 + ((n % 26 : Nat) : Int))]⟩ : ByteArray).size = 1 := rfl
      rw [e]
      clear ih e
      refine con_of Tryz.tysOk Tryz.func24 rfl rfl ?_
      conv => whnf
      repeat' (first
        | ((with_reducible refine Br.df ?_ ?_); (focus (first | assumption | omega)); conv => whnf)
        | ((with_reducible refine Ar.i64 ?_ ?_); (focus omega); conv => whnf)
        | ((with_reducible refine Nd.mk ?_ ?_); (focus (first | omega | rfl | assumption | (simp; done))); conv => whnf)
        | (first | ((with_reducible refine Cl.is (hi _) ?_); conv => whnf) | ((with_reducible refine Cl.is (hl _) ?_); conv => whnf))
        | ((rw [t1]); conv => whnf)
        | ((rw [t2]); conv => whnf))
      all_goals (refine Is.ent ?_ ?_; (focus (exact Ent.rfl)); (exact Is.rfl))
end Go.Proofs
