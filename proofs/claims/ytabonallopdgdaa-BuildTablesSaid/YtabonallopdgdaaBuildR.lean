/- Tables of wishes are right: plain. -/
import Derived.Test.YtabonallopdgdaaBuildB
set_option linter.all false
namespace Go.Proofs
open Go.Eng
open Classical
set_option linter.unusedVariables false
set_option maxRecDepth 100000
/-- the tables of wishes -/
abbrev tabC (xs : List Wsh) (wa sa ca : Option Addr) (wc sc cc : Nat) : Cfg := ⟨frT xs xs.length, wa, wc, winT xs xs.length, sa, sc, sloT xs xs.length, ca, cc, cliT xs xs.length⟩
theorem getD_range {α : Type} {d : α} {f : Nat → α} {n i : Nat} (hi : i < n) : ((List.range n).map f).getD i d = f i := by
  simp [List.getD, hi]
theorem win_zero (xs : List Wsh) : (winT xs xs.length).getD 0 slE.d = (0, 0, 2 * (xs.length : Int)) := rfl
theorem win_succ {xs : List Wsh} {i : Nat} (hi : i < xs.length) : (winT xs xs.length).getD (i + 1) slE.d = ((i : Int) + 1, 2 * (xs.length : Int) + sumB pF xs i, 2 * (xs.length : Int) + sumB pF xs (i + 1)) := by
  unfold winT
  rw [List.getD_cons_succ, getD_range hi]
theorem slo_at {xs : List Wsh} {i : Nat} (hi : i < xs.length) : (sloT xs xs.length).getD i slE.d = ((i : Int) + 1, sumB qF xs i, sumB qF xs (i + 1)) := getD_range hi
theorem cli_at {xs : List Wsh} {i : Nat} (hi : i < xs.length) : (cliT xs xs.length).getD i clE.d = { cliW (xs.getD i wsE.d) with b := 128 + sumB zF xs i, f := sumB sF xs i, m := (i : Int) + 1, h := (i : Int) + 1 } := getD_range hi
theorem winT_len (xs : List Wsh) : (winT xs xs.length).length = xs.length + 1 := by simp [winT]
theorem sloT_len (xs : List Wsh) : (sloT xs xs.length).length = xs.length := by simp [sloT]
theorem cliT_len (xs : List Wsh) : (cliT xs xs.length).length = xs.length := by simp [cliT]
theorem sumB_mono {f : Wsh → Int} {xs : List Wsh} (h : ∀ x ∈ xs, 0 ≤ f x) {j i : Nat} (hij : j ≤ i) (hi : i ≤ xs.length) : sumB f xs j ≤ sumB f xs i := by
  induction i with
  | zero =>
    have : j = 0 := by omega
    subst this
    exact Int.le_refl _
  | succ i ih =>
    by_cases e : j = i + 1
    · subst e; exact Int.le_refl _
    · have h1 := ih (by omega) (by omega)
      have h2 := sumB_succ (f := f) (show i < xs.length by omega)
      have h3 := h _ (getD_mem (d := wsE.d) (show i < xs.length by omega))
      omega
theorem tab_right {xs : List Wsh} (h : HadT xs) (wa sa ca : Option Addr) (wc sc cc : Nat) : Right (tabC xs wa sa ca wc sc cc) := by
  have hl := h.len
  have hm : ∀ i, i < xs.length → mayW (xs.getD i wsE.d) := fun i hi => h.may _ (getD_mem hi)
  have hmz : ∀ x ∈ xs, (0 ≤ zF x ∧ zF x ≤ 1024) ∧ (0 ≤ sF x ∧ sF x ≤ 64) ∧ (0 ≤ pF x ∧ pF x ≤ 4096) ∧ (0 ≤ qF x ∧ qF x ≤ 64) := fun x hx => by
    obtain ⟨⟨a1, a2, -, -⟩, ⟨a3, a4, -, -⟩, a5, a6, a7, a8⟩ := h.may x hx
    simp only [zF, sF, pF, qF]
    omega
  have bz := sumB_bd (f := zF) (fun x hx => (hmz x hx).1) (by omega)
  have bs := sumB_bd (f := sF) (fun x hx => (hmz x hx).2.1) (by omega)
  have bp := sumB_bd (f := pF) (fun x hx => (hmz x hx).2.2.1) (by omega)
  have bq := sumB_bd (f := qF) (fun x hx => (hmz x hx).2.2.2) (by omega)
  have mz := fun {j i : Nat} (a : j ≤ i) b => sumB_mono (f := zF) (xs := xs) (fun x hx => (hmz x hx).1.1) a b
  have ms := fun {j i : Nat} (a : j ≤ i) b => sumB_mono (f := sF) (xs := xs) (fun x hx => (hmz x hx).2.1.1) a b
  have mp := fun {j i : Nat} (a : j ≤ i) b => sumB_mono (f := pF) (xs := xs) (fun x hx => (hmz x hx).2.2.1.1) a b
  have mq := fun {j i : Nat} (a : j ≤ i) b => sumB_mono (f := qF) (xs := xs) (fun x hx => (hmz x hx).2.2.2.1) a b
  have ez := fun {k : Nat} (hk : k < xs.length) => sumB_succ (f := zF) hk
  have es := fun {k : Nat} (hk : k < xs.length) => sumB_succ (f := sF) hk
  have ep := fun {k : Nat} (hk : k < xs.length) => sumB_succ (f := pF) hk
  have eq := fun {k : Nat} (hk : k < xs.length) => sumB_succ (f := qF) hk
  simp only [zF, sF, pF, qF] at ez es ep eq
  have hfr : frT xs xs.length = max (2 * (xs.length : Int) + sumB pF xs xs.length) (sumB qF xs xs.length) := by
    obtain ⟨m, hm⟩ : ∃ m, xs.length = m + 1 := ⟨xs.length - 1, by omega⟩
    rw [hm]
    show max (2 * ((xs.length : Nat) : Int) + _) _ = _
    rw [hm]
  have hfu := h.full (xs.length - 1) (by omega)
  rw [show xs.length - 1 + 1 = xs.length from by omega] at hfu
  have b0 := bp xs.length (Nat.le_refl _)
  have hf : frF (tabC xs wa sa ca wc sc cc) := ⟨by show 1 ≤ frT xs xs.length; omega, by show frT xs xs.length ≤ 4096; omega, by show 1 ≤ (cliT xs xs.length).length; rw [cliT_len]; omega, by show (cliT xs xs.length).length ≤ 8; rw [cliT_len]; omega, by show (winT xs xs.length).length ≤ 9; rw [winT_len]; omega, by show (sloT xs xs.length).length ≤ 32; rw [sloT_len]; omega⟩
  have hgs : ∀ i, i < xs.length → goodS (tabC xs wa sa ca wc sc cc) ((sloT xs xs.length).getD i slE.d) := fun i hi => by
    rw [slo_at hi]
    have h1 := hm i hi
    have h2 := h1.2.1.1
    have e1 := eq hi
    have b1 := bq i (by omega)
    have m1 := mq (show i + 1 ≤ xs.length by omega) (Nat.le_refl _)
    refine ⟨⟨by show (1 : Int) ≤ (i : Int) + 1; omega, by show (i : Int) + 1 ≤ ((cliT xs xs.length).length : Int); rw [cliT_len]; omega⟩, ⟨⟨by show 0 ≤ sumB qF xs i; omega, by show sumB qF xs i < sumB qF xs (i + 1); omega⟩, by show sumB qF xs (i + 1) ≤ frT xs xs.length; omega⟩, by show 4 ≤ sumB qF xs (i + 1) - sumB qF xs i; omega⟩
  refine ⟨hf, ?_, ?_, ?_, ?_, ?_, ?_, ?_, ?_, ?_⟩
  · intro i hi hb
    have hi : i < xs.length := by rw [cliT_len] at hi; exact hi
    refine hb ?_
    show goodC ((cliT xs xs.length).getD i clE.d)
    rw [cli_at hi]
    obtain ⟨⟨a1, a2, a3, a4⟩, ⟨a5, a6, a7, a8⟩, a9, a10, a11, a12⟩ := hm i hi
    have e1 := ez hi
    have e2 := es hi
    have b1 := bz i (by omega)
    have b2 := bs (i + 1) (by omega)
    have b3 := bs i (by omega)
    have m1 := mz (show i + 1 ≤ xs.length by omega) (Nat.le_refl _)
    have hR : ¬ ringN (xs.getD i wsE.d).r = 0 := fun h0 => by unfold ringN at h0; rw [if_pos a3] at h0; omega
    refine ⟨⟨a1, a2, by show 128 ≤ 128 + sumB zF xs i; omega, by show 128 + sumB zF xs i ≤ 16384 - (xs.getD i wsE.d).z; omega⟩, ⟨hR, by show 0 ≤ (xs.getD i wsE.d).z - ringN (xs.getD i wsE.d).r; omega, Int.le_refl _⟩, ⟨a5, a6, a7, a8⟩, ⟨by show (0 : Int) ≤ (i : Int) + 1; omega, by show (i : Int) + 1 ≤ 255; omega, by show (0 : Int) ≤ (i : Int) + 1; omega, by show (i : Int) + 1 ≤ 255; omega⟩, a9, a10, by show 0 ≤ sumB sF xs i; omega, by show sumB sF xs i ≤ 512 - (xs.getD i wsE.d).s; omega⟩
  · rintro i hi ⟨_, j, hj, _, hs⟩
    have hi : i < xs.length := by rw [cliT_len] at hi; exact hi
    have hs : sameC ((cliT xs xs.length).getD i clE.d) ((cliT xs xs.length).getD j clE.d) := hs
    rw [cli_at hi, cli_at (by omega)] at hs
    have e1 := ez (show j < xs.length by omega)
    have e2 := es (show j < xs.length by omega)
    have m1 := mz (show j + 1 ≤ i by omega) (by omega)
    have m2 := ms (show j + 1 ≤ i by omega) (by omega)
    rcases hs with h1 | h1 | h1 | h1
    · have h1 : (i : Int) + 1 = (j : Int) + 1 := h1
      omega
    · have h1 : (i : Int) + 1 = (j : Int) + 1 := h1
      omega
    · have h2 : 128 + sumB zF xs i < 128 + sumB zF xs j + (xs.getD j wsE.d).z := h1.2.2.1
      omega
    · have h2 : sumB sF xs i < sumB sF xs j + (xs.getD j wsE.d).s := h1.2.2.1
      omega
  · intro i hi hb
    rw [winT_len] at hi
    refine hb ?_
    show goodW (tabC xs wa sa ca wc sc cc) ((winT xs xs.length).getD i slE.d)
    cases i with
    | zero =>
      rw [win_zero]
      exact ⟨⟨Int.le_refl _, by show (0 : Int) ≤ _; omega⟩, ⟨Int.le_refl _, by show (0 : Int) < 2 * (xs.length : Int); omega⟩, by show 2 * (xs.length : Int) ≤ frT xs xs.length; omega⟩
    | succ i =>
      have hi : i < xs.length := by omega
      rw [win_succ hi]
      have h2 := (hm i hi).2.2.2.2.1
      have e1 := ep hi
      have b1 := bp i (by omega)
      have m1 := mp (show i + 1 ≤ xs.length by omega) (Nat.le_refl _)
      exact ⟨⟨by show (0 : Int) ≤ (i : Int) + 1; omega, by show (i : Int) + 1 ≤ ((cliT xs xs.length).length : Int); rw [cliT_len]; omega⟩, ⟨by show 0 ≤ 2 * (xs.length : Int) + sumB pF xs i; omega, by show 2 * (xs.length : Int) + sumB pF xs i < 2 * (xs.length : Int) + sumB pF xs (i + 1); omega⟩, by show 2 * (xs.length : Int) + sumB pF xs (i + 1) ≤ frT xs xs.length; omega⟩
  · rintro i hi ⟨j, hj, hs⟩
    rw [winT_len] at hi
    have hs : meetW ((winT xs xs.length).getD i slE.d) ((winT xs xs.length).getD j slE.d) ∨ ((winT xs xs.length).getD i slE.d).1 = ((winT xs xs.length).getD j slE.d).1 := hs
    cases i with
    | zero => omega
    | succ i =>
      have hi : i < xs.length := by omega
      have b1 := bp i (by omega)
      rw [win_succ hi] at hs
      cases j with
      | zero =>
        rw [win_zero] at hs
        rcases hs with h1 | h1
        · have h2 : 2 * (xs.length : Int) + sumB pF xs i < 2 * (xs.length : Int) := h1.2.2.1
          omega
        · have h2 : (i : Int) + 1 = 0 := h1
          omega
      | succ j =>
        rw [win_succ (by omega)] at hs
        have m1 := mp (show j + 1 ≤ i by omega) (by omega)
        rcases hs with h1 | h1
        · have h2 : 2 * (xs.length : Int) + sumB pF xs i < 2 * (xs.length : Int) + sumB pF xs (j + 1) := h1.2.2.1
          omega
        · have h2 : (i : Int) + 1 = (j : Int) + 1 := h1
          omega
  · intro o ho hb
    rw [cliT_len] at ho
    refine hb ?_
    cases o with
    | zero => exact ⟨0, by show 0 < (winT xs xs.length).length; rw [winT_len]; omega, rfl⟩
    | succ k => exact ⟨k + 1, by show k + 1 < (winT xs xs.length).length; rw [winT_len]; omega, by show ((winT xs xs.length).getD (k + 1) slE.d).1 = _; rw [win_succ (by omega)]; show (k : Int) + 1 = ((k + 1 : Nat) : Int); omega⟩
  · rintro ⟨k, hk, hz, hno, hg, hlt⟩
    have h0 : k = 0 := by
      rcases Nat.eq_zero_or_pos k with h | h
      · exact h
      · exact (hno 0 h rfl).elim
    subst h0
    have hlt : 2 * (xs.length : Int) - 0 < 2 * ((cliT xs xs.length).length : Int) := hlt
    rw [cliT_len] at hlt
    omega
  · intro i hi hb
    rw [sloT_len] at hi
    exact hb (hgs i hi)
  · rintro i hi ⟨j, hj, hs⟩
    rw [sloT_len] at hi
    have hs : meetW ((sloT xs xs.length).getD i slE.d) ((sloT xs xs.length).getD j slE.d) := hs
    rw [slo_at hi, slo_at (by omega)] at hs
    have m1 := mq (show j + 1 ≤ i by omega) (by omega)
    have h2 : sumB qF xs i < sumB qF xs (j + 1) := hs.2.2.1
    omega
  · intro i hi hb
    have hi : i < xs.length := by rw [cliT_len] at hi; exact hi
    have key : ∀ k, k ≤ xs.length → unN (tabC xs wa sa ca wc sc cc) ((i : Int) + 1) k = if i < k then (xs.getD i wsE.d).q else 0 := by
      intro k
      induction k with
      | zero => intro _; simp [unN]
      | succ k ih =>
        intro hk
        rw [unN_succ (by show k < (sloT xs xs.length).length; rw [sloT_len]; omega), ih (by omega)]
        have hg := hgs k (by omega)
        have hc : cS (tabC xs wa sa ca wc sc cc) k = ((k : Int) + 1, sumB qF xs k, sumB qF xs (k + 1)) := slo_at (by omega)
        have hg' : goodS (tabC xs wa sa ca wc sc cc) (cS (tabC xs wa sa ca wc sc cc) k) := hg
        have hstep : (if (cS (tabC xs wa sa ca wc sc cc) k).1 = (i : Int) + 1 ∧ goodS (tabC xs wa sa ca wc sc cc) (cS (tabC xs wa sa ca wc sc cc) k) then ((cS (tabC xs wa sa ca wc sc cc) k).2.2 - (cS (tabC xs wa sa ca wc sc cc) k).2.1) / 4 else 0) = if k = i then (xs.getD i wsE.d).q else 0 := by
          by_cases e : k = i
          · subst e
            have e1 := eq hi
            rw [if_pos rfl, if_pos ⟨by rw [hc], hg'⟩, hc]
            show (sumB qF xs (k + 1) - sumB qF xs k) / 4 = _
            omega
          · rw [if_neg e, if_neg (fun hh => e (by
              have h3 := hh.1
              rw [hc] at h3
              have h3 : (k : Int) + 1 = (i : Int) + 1 := h3
              omega))]
        rw [hstep]
        clear hstep hg hg' hc
        by_cases e : k = i
        · rw [if_pos e, if_neg (by omega), if_pos (by omega)]
          omega
        · rw [if_neg e]
          by_cases hik : i < k
          · rw [if_pos hik, if_pos (by omega)]; omega
          · rw [if_neg hik, if_neg (by omega)]; rfl
    unfold b10 unF at hb
    rw [if_pos hf] at hb
    have hb : unN (tabC xs wa sa ca wc sc cc) ((i : Int) + 1) (sloT xs xs.length).length < ((cliT xs xs.length).getD i clE.d).q := hb
    rw [sloT_len, key _ (Nat.le_refl _), if_pos hi, cli_at hi] at hb
    exact absurd hb (by show ¬ ((xs.getD i wsE.d).q < (xs.getD i wsE.d).q); omega)
end Go.Proofs
