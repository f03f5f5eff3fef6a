/- An image's tables: which bytes are tables: plain. -/
import Derived.Test.YtdjpcfaidgofoaaGreatTopA
import Derived.Test.YtdjpcfaidgofoaaGreatTopB
set_option linter.all false
namespace Go.Proofs
open Go.Eng
open Classical
set_option linter.unusedVariables false
set_option maxRecDepth 100000
set_option maxHeartbeats 4000000
/-- rows by their places -/
def oneA (s : ByteArray) (i : Nat) : Int := ((sAt s i).toNat : Int)
def twoA (s : ByteArray) (i : Nat) : Int := ((sAt s i).toNat : Int) + 256 * ((sAt s (i + 1)).toNat : Int)
def winA (s : ByteArray) (i : Nat) : Slt := (oneA s i, twoA s (i + 1), twoA s (i + 3))
def cliA (s : ByteArray) (i : Nat) : Cli := ⟨twoA s i, twoA s (i + 2), oneA s (i + 4), twoA s (i + 5), oneA s (i + 7), oneA s (i + 8), oneA s (i + 9), oneA s (i + 10), twoA s (i + 11), oneA s (i + 13)⟩
def winsA (s : ByteArray) : Nat → Nat → List Slt
  | 0, _ => []
  | n + 1, i => winA s i :: winsA s n (i + 5)
def clisA (s : ByteArray) : Nat → Nat → List Cli
  | 0, _ => []
  | n + 1, i => cliA s i :: clisA s n (i + 14)
theorem nxt_ok {s : ByteArray} {n i : Nat} (h : i + n ≤ s.size) : nxt s n (true, i) = (true, i + n) := if_pos ⟨rfl, h⟩
theorem nxt_bad {s : ByteArray} {n i : Nat} (h : ¬ i + n ≤ s.size) : (nxt s n (true, i)).1 = false := by
  unfold nxt
  rw [if_neg (fun hh => h hh.2)]
theorem nxt_f {s : ByteArray} {n : Nat} {t : Rst} (h : t.1 = false) : (nxt s n t).1 = false := by
  unfold nxt
  rw [if_neg (fun hh => by rw [h] at hh; exact absurd hh.1 (by decide))]
theorem bV_ok {s : ByteArray} {i : Nat} (h : i + 1 ≤ s.size) : bV s (true, i) = oneA s i := if_pos ⟨rfl, h⟩
theorem wV_ok {s : ByteArray} {i : Nat} (h : i + 2 ≤ s.size) : wV s (true, i) = twoA s i := if_pos ⟨rfl, h⟩
theorem rowW_ok {s : ByteArray} {i : Nat} (h : i + 5 ≤ s.size) : rowW s (true, i) = winA s i ∧ rowWn s (true, i) = (true, i + 5) := by
  unfold rowW rowWn winA
  rw [nxt_ok (by omega), nxt_ok (by omega), nxt_ok (by omega), bV_ok (by omega), wV_ok (by omega), wV_ok (by omega)]
  exact ⟨rfl, rfl⟩
theorem rowW_bad {s : ByteArray} {i : Nat} (h : ¬ i + 5 ≤ s.size) : (rowWn s (true, i)).1 = false := by
  unfold rowWn
  by_cases h1 : i + 1 ≤ s.size
  · rw [nxt_ok h1]
    by_cases h2 : i + 1 + 2 ≤ s.size
    · rw [nxt_ok h2]
      exact nxt_bad (by omega)
    · exact nxt_f (nxt_bad h2)
  · exact nxt_f (nxt_f (nxt_bad h1))
theorem rowC_ok {s : ByteArray} {i : Nat} (h : i + 14 ≤ s.size) : rowC s (true, i) = cliA s i ∧ rowCn s (true, i) = (true, i + 14) := by
  unfold rowC rowCn cliA
  dsimp only
  rw [nxt_ok (n := 2) (i := i) (by omega), nxt_ok (n := 2) (i := i + 2) (by omega), nxt_ok (n := 1) (i := i + 2 + 2) (by omega), nxt_ok (n := 2) (i := i + 2 + 2 + 1) (by omega), nxt_ok (n := 1) (i := i + 2 + 2 + 1 + 2) (by omega),
    nxt_ok (n := 1) (i := i + 2 + 2 + 1 + 2 + 1) (by omega), nxt_ok (n := 1) (i := i + 2 + 2 + 1 + 2 + 1 + 1) (by omega), nxt_ok (n := 1) (i := i + 2 + 2 + 1 + 2 + 1 + 1 + 1) (by omega), nxt_ok (n := 2) (i := i + 2 + 2 + 1 + 2 + 1 + 1 + 1 + 1) (by omega), nxt_ok (n := 1) (i := i + 2 + 2 + 1 + 2 + 1 + 1 + 1 + 1 + 2) (by omega),
    wV_ok (by omega), wV_ok (by omega), bV_ok (by omega), wV_ok (by omega), bV_ok (by omega), bV_ok (by omega), bV_ok (by omega), bV_ok (by omega), wV_ok (by omega), bV_ok (by omega)]
  exact ⟨rfl, rfl⟩
theorem bad_step {s : ByteArray} {n i : Nat} {t : Rst} (h : t.1 = false ∨ (t = (true, i) ∧ ¬ i + n ≤ s.size)) : (nxt s n t).1 = false := by
  rcases h with h | ⟨rfl, h⟩
  · exact nxt_f h
  · exact nxt_bad h
theorem nxt_go {s : ByteArray} {n i m : Nat} {t : Rst} (h : t.1 = false ∨ (t = (true, i) ∧ i ≤ m)) : (nxt s n t).1 = false ∨ (nxt s n t = (true, i + n) ∧ i + n ≤ s.size) := by
  rcases h with h | ⟨rfl, h⟩
  · exact .inl (nxt_f h)
  · by_cases hh : i + n ≤ s.size
    · exact .inr ⟨nxt_ok hh, hh⟩
    · exact .inl (nxt_bad hh)
theorem rowC_bad {s : ByteArray} {i : Nat} (h : ¬ i + 14 ≤ s.size) : (rowCn s (true, i)).1 = false := by
  have h0 : (true, i) = ((true, i) : Rst) ∧ i ≤ i := ⟨rfl, Nat.le_refl _⟩
  have h1 := nxt_go (s := s) (n := 2) (t := (true, i)) (.inr h0)
  have h2 := nxt_go (s := s) (n := 2) h1
  have h3 := nxt_go (s := s) (n := 1) h2
  have h4 := nxt_go (s := s) (n := 2) h3
  have h5 := nxt_go (s := s) (n := 1) h4
  have h6 := nxt_go (s := s) (n := 1) h5
  have h7 := nxt_go (s := s) (n := 1) h6
  have h8 := nxt_go (s := s) (n := 1) h7
  have h9 := nxt_go (s := s) (n := 2) h8
  have h10 := nxt_go (s := s) (n := 1) h9
  rcases h10 with h10 | ⟨_, h10⟩
  · exact h10
  · exact absurd (by omega : i + 14 ≤ s.size) h
theorem win_all (s : ByteArray) : ∀ (n i : Nat), i ≤ s.size → (i + 5 * n ≤ s.size → winF s n (true, i) = (winsA s n i, (true, i + 5 * n))) ∧ (¬ i + 5 * n ≤ s.size → (winF s n (true, i)).2.1 = false)
  | 0, i, hi => ⟨fun _ => rfl, fun h => absurd (by omega) h⟩
  | n + 1, i, hi => by
    by_cases h5 : i + 5 ≤ s.size
    · obtain ⟨r1, r2⟩ := rowW_ok h5
      obtain ⟨i1, i2⟩ := win_all s n (i + 5) h5
      rw [winF, if_pos rfl, r1, r2]
      refine ⟨fun h => ?_, fun h => ?_⟩
      · rw [i1 (by omega)]
        show (winA s i :: winsA s n (i + 5), (true, i + 5 + 5 * n)) = _
        rw [show i + 5 + 5 * n = i + 5 * (n + 1) by omega]
        rfl
      · exact i2 (by omega)
    · refine ⟨fun h => absurd (by omega) h5, fun _ => ?_⟩
      rw [winF, if_pos rfl]
      have hb := rowW_bad h5
      have key : ∀ (m : Nat) (t : Rst), t.1 = false → (winF s m t).2.1 = false := fun m t ht => by
        cases m with
        | zero => exact ht
        | succ m => rw [winF, if_neg (by rw [ht]; decide)]; exact ht
      exact key n _ hb
theorem cli_all (s : ByteArray) : ∀ (n i : Nat), i ≤ s.size → (i + 14 * n ≤ s.size → cliF s n (true, i) = (clisA s n i, (true, i + 14 * n))) ∧ (¬ i + 14 * n ≤ s.size → (cliF s n (true, i)).2.1 = false)
  | 0, i, hi => ⟨fun _ => rfl, fun h => absurd (by omega) h⟩
  | n + 1, i, hi => by
    by_cases h5 : i + 14 ≤ s.size
    · obtain ⟨r1, r2⟩ := rowC_ok h5
      obtain ⟨i1, i2⟩ := cli_all s n (i + 14) h5
      rw [cliF, if_pos rfl, r1, r2]
      refine ⟨fun h => ?_, fun h => ?_⟩
      · rw [i1 (by omega)]
        show (cliA s i :: clisA s n (i + 14), (true, i + 14 + 14 * n)) = _
        rw [show i + 14 + 14 * n = i + 14 * (n + 1) by omega]
        rfl
      · exact i2 (by omega)
    · refine ⟨fun h => absurd (by omega) h5, fun _ => ?_⟩
      rw [cliF, if_pos rfl]
      have hb := rowC_bad h5
      have key : ∀ (m : Nat) (t : Rst), t.1 = false → (cliF s m t).2.1 = false := fun m t ht => by
        cases m with
        | zero => exact ht
        | succ m => rw [cliF, if_neg (by rw [ht]; decide)]; exact ht
      exact key n _ hb
/-! where the rows lie -/
def l1 (s : ByteArray) : Nat := (sAt s 4).toNat
def l2 (s : ByteArray) : Nat := (sAt s (5 + 5 * l1 s)).toNat
def l3 (s : ByteArray) : Nat := (sAt s (6 + 5 * l1 s + 5 * l2 s)).toNat
/-- all rows are there -/
def fits (s : ByteArray) : Prop := 5 ≤ s.size ∧ 6 + 5 * l1 s ≤ s.size ∧ 7 + 5 * l1 s + 5 * l2 s ≤ s.size ∧ 7 + 5 * l1 s + 5 * l2 s + 14 * l3 s ≤ s.size
/-- what is wrong with an image's bytes; 0: nothing -/
noncomputable def prsE (s : ByteArray) : Int :=
  if 2 ≤ s.size ∧ ¬ s.extract 0 2 = ⟨#[67, 1]⟩ then 3 else if ¬ fits s then 5 else if 7 + 5 * l1 s + 5 * l2 s + 14 * l3 s < s.size then 3 else 0
abbrev tbA (s : ByteArray) : Tb := (winsA s (l1 s) 5, winsA s (l2 s) (6 + 5 * l1 s), clisA s (l3 s) (7 + 5 * l1 s + 5 * l2 s), (true, 7 + 5 * l1 s + 5 * l2 s + 14 * l3 s))
theorem fin2_f {s : ByteArray} {n : Int} {t : Rst} {W S : List Slt} {X : List Cli} (h : t.1 = false) : (fin2 s n t W S X).2.2.2.1 = false := by
  rw [fin2_no s W S X (fun hh => by rw [h] at hh; exact absurd hh.2 (by decide))]
  exact h
theorem fin1_f {s : ByteArray} {n : Int} {t : Rst} {W S : List Slt} (h : t.1 = false) : (fin1 s n t W S).2.2.2.1 = false := by
  rw [fin1_no s W S (fun hh => by rw [h] at hh; exact absurd hh.2 (by decide))]
  exact fin2_f (nxt_f h)
theorem fin0_f {s : ByteArray} {n : Int} {t : Rst} {W : List Slt} (h : t.1 = false) : (fin0 s n t W).2.2.2.1 = false := by
  rw [fin0_no s W (fun hh => by rw [h] at hh; exact absurd hh.2 (by decide))]
  exact fin1_f (nxt_f h)
theorem one_nat (s : ByteArray) (i : Nat) : (oneA s i).toNat = (sAt s i).toNat := by unfold oneA; omega
theorem tbl_f {s : ByteArray} {t : Rst} (h : t.1 = false) : (tblF s t).2.2.2.1 = false := fin0_f (nxt_f (nxt_f h))
theorem tbl_ok {s : ByteArray} (h2 : 2 ≤ s.size) : (fits s → tblF s (true, 2) = tbA s ∧ wV s (true, 2) = twoA s 2) ∧ (¬ fits s → (tblF s (true, 2)).2.2.2.1 = false) := by
  by_cases h4 : 4 ≤ s.size
  · have e1 : nxt s 2 (true, 2) = (true, 4) := nxt_ok (by omega)
    by_cases h5 : 5 ≤ s.size
    · have e2 : nxt s 1 (true, 4) = (true, 5) := nxt_ok (by omega)
      have e3 : bV s (true, 4) = oneA s 4 := bV_ok (by omega)
      have hT : tblF s (true, 2) = fin0 s (oneA s 4) (true, 5) [] := by unfold tblF; rw [e1, e2, e3]
      have n1 : (oneA s 4).toNat = l1 s := one_nat s 4
      rw [hT]
      unfold fin0
      rw [n1]
      obtain ⟨w1, w2⟩ := win_all s (l1 s) 5 h5
      by_cases f1 : 5 + 5 * l1 s ≤ s.size
      · rw [w1 f1]
        dsimp only
        by_cases f2 : 6 + 5 * l1 s ≤ s.size
        · have e4 : nxt s 1 (true, 5 + 5 * l1 s) = (true, 6 + 5 * l1 s) := by rw [nxt_ok (by omega)]; congr 1; omega
          have e5 : bV s (true, 5 + 5 * l1 s) = oneA s (5 + 5 * l1 s) := bV_ok (by omega)
          have n2 : (oneA s (5 + 5 * l1 s)).toNat = l2 s := one_nat s _
          rw [e4, e5]
          unfold fin1
          rw [n2]
          obtain ⟨w3, w4⟩ := win_all s (l2 s) (6 + 5 * l1 s) f2
          by_cases f3 : 6 + 5 * l1 s + 5 * l2 s ≤ s.size
          · rw [w3 f3]
            dsimp only
            by_cases f4 : 7 + 5 * l1 s + 5 * l2 s ≤ s.size
            · have e6 : nxt s 1 (true, 6 + 5 * l1 s + 5 * l2 s) = (true, 7 + 5 * l1 s + 5 * l2 s) := by rw [nxt_ok (by omega)]; congr 1; omega
              have e7 : bV s (true, 6 + 5 * l1 s + 5 * l2 s) = oneA s (6 + 5 * l1 s + 5 * l2 s) := bV_ok (by omega)
              have n3 : (oneA s (6 + 5 * l1 s + 5 * l2 s)).toNat = l3 s := one_nat s _
              rw [e6, e7]
              unfold fin2
              rw [n3]
              obtain ⟨w5, w6⟩ := cli_all s (l3 s) (7 + 5 * l1 s + 5 * l2 s) f4
              by_cases f5 : 7 + 5 * l1 s + 5 * l2 s + 14 * l3 s ≤ s.size
              · rw [w5 f5]
                exact ⟨fun _ => ⟨rfl, wV_ok h4⟩, fun h => absurd ⟨h5, f2, f4, f5⟩ h⟩
              · exact ⟨fun h => absurd h.2.2.2 f5, fun _ => w6 f5⟩
            · exact ⟨fun h => absurd h.2.2.1 f4, fun _ => fin2_f (nxt_bad (by omega))⟩
          · exact ⟨fun h => absurd (by have := h.2.2.1; omega) f3, fun _ => fin2_f (nxt_f (w4 f3))⟩
        · exact ⟨fun h => absurd h.2.1 f2, fun _ => fin1_f (nxt_bad (by omega))⟩
      · exact ⟨fun h => absurd (by have := h.2.1; omega) f1, fun _ => fin1_f (nxt_f (w2 f1))⟩
    · refine ⟨fun h => absurd h.1 h5, fun _ => ?_⟩
      unfold tblF
      rw [e1]
      exact fin0_f (nxt_bad (by omega))
  · refine ⟨fun h => absurd h.1 (by omega), fun _ => ?_⟩
    unfold tblF
    exact fin0_f (nxt_f (nxt_bad (by omega)))
/-! with the check -/
abbrev cutB (s : ByteArray) : ByteArray := s.extract 0 (s.size - 2)
noncomputable def imgE (s : ByteArray) : Int := if s.size < 2 then 5 else if sealB (cutB s) = s then prsE (cutB s) else 10
/-- the tables of an image -/
structure TbIs (s : ByteArray) (C : Cfg) : Prop where
  F : C.F = twoA (cutB s) 2
  w : C.ws = winsA (cutB s) (l1 (cutB s)) 5
  q : C.ss = winsA (cutB s) (l2 (cutB s)) (6 + 5 * l1 (cutB s))
  x : C.xs = clisA (cutB s) (l3 (cutB s)) (7 + 5 * l1 (cutB s) + 5 * l2 (cutB s))
end Go.Proofs
