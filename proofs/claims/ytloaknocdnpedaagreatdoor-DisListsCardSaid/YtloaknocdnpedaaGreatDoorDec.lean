/- Numbers and words of a text: plain laws. -/
import Derived.Test.YtloaknocdnpedaaGreatDoorLibB
import Derived.Test.YtloaknocdnpedaaGreatDoorSplit
import Derived.Lib.SlicesS
import Derived.Lib.ItoaLen
set_option linter.all false
namespace Go.Eng
open Go
theorem spl_join (c : UInt8) : ∀ l : List UInt8, (spl c l).1 ++ ((spl c l).2.map (c :: ·)).flatten = l
  | [] => rfl
  | x :: l => by
    have ih := spl_join c l
    by_cases h : x = c
    · subst h
      simp only [spl, if_true, List.map_cons, List.flatten_cons, List.nil_append, List.cons_append]
      rw [ih]
    · simp only [spl, if_neg h, List.cons_append]
      rw [ih]
theorem spl_no (c : UInt8) : ∀ l : List UInt8, c ∉ (spl c l).1 ∧ ∀ w ∈ (spl c l).2, c ∉ w
  | [] => ⟨by simp [spl], by simp [spl]⟩
  | x :: l => by
    obtain ⟨h1, h2⟩ := spl_no c l
    by_cases h : x = c
    · subst h
      simp only [spl, if_true, List.mem_cons]
      exact ⟨by simp, fun w hw => by rcases hw with rfl | hw; exact h1; exact h2 w hw⟩
    · simp only [spl, if_neg h, List.mem_cons, not_or]
      exact ⟨⟨fun e => h e.symm, h1⟩, h2⟩
theorem spl_len (c : UInt8) : ∀ l : List UInt8, (spl c l).1.length ≤ l.length ∧ (∀ w ∈ (spl c l).2, w.length ≤ l.length) ∧ (spl c l).2.length ≤ l.length
  | [] => ⟨by simp [spl], by simp [spl], by simp [spl]⟩
  | x :: l => by
    obtain ⟨h1, h2, h3⟩ := spl_len c l
    by_cases h : x = c
    · subst h
      simp only [spl, if_true, List.mem_cons, List.length_cons, List.length_nil]
      exact ⟨by omega, fun w hw => by rcases hw with rfl | hw; omega; have := h2 w hw; omega, by omega⟩
    · simp only [spl, if_neg h, List.length_cons]
      exact ⟨by omega, fun w hw => by have := h2 w hw; omega, by omega⟩
/-- strings.Cut at one byte, by the words -/
theorem cut_spl (c : UInt8) (l : List UInt8) : ((spl c l).2 = [] ∧ (spl c l).1 = l ∧ Lib.cut l [c] = (l, [], false)) ∨ ∃ r, Lib.cut l [c] = ((spl c l).1, r, true) ∧ (spl c l).2 = (spl c r).1 :: (spl c r).2 ∧ r.length < l.length := by
  by_cases h : c ∈ l
  · obtain ⟨w, r, e, hw⟩ := List.eq_append_cons_of_mem h
    subst e
    exact .inr ⟨r, by rw [spl_app hw]; exact cut_app hw r, by rw [spl_app hw], by simp; omega⟩
  · exact .inl ⟨by rw [spl_none h], by rw [spl_none h], cut_not h⟩
end Go.Eng
namespace Go.Proofs
open Go.Eng
open Classical
set_option linter.unusedVariables false
set_option maxRecDepth 100000
set_option maxHeartbeats 4000000
abbrev bsL (l : List UInt8) : ByteArray := ⟨l.toArray⟩
theorem bsL_list (l : List UInt8) : (bsL l).data.toList = l := rfl
theorem bsL_size (l : List UInt8) : (bsL l).size = l.length := rfl
theorem size_zero {s : ByteArray} (h : s.size = 0) : s = ⟨#[]⟩ := str_ext (List.eq_nil_of_length_eq_zero (by rw [size_list]; exact h))
theorem u8_dig {k : Nat} (h : k < 10) : u8of (48 + (k : Int)) = UInt8.ofNat (48 + k) := by
  unfold u8of
  congr 1
  omega
theorem dec_low {n : Nat} (h : n ≤ 9) : Lib.decDigits n = [u8of (48 + (n : Int))] := by rw [Lib.decDigits, dif_pos (by omega), u8_dig (by omega)]
theorem dec_high {n : Nat} (h : ¬ n ≤ 9) : Lib.decDigits n = Lib.decDigits (n / 10) ++ [u8of (48 + ((n % 10 : Nat) : Int))] := by
  rw [Lib.decDigits, dif_neg (by omega), u8_dig (Nat.mod_lt n (by omega))]
theorem app_size (a b : ByteArray) : (a ++ b).size = a.size + b.size := by rw [← size_list, append_list, List.length_append, size_list, size_list]
theorem itoa_nat {n : Int} (h : 0 ≤ n) : Lib.itoa n = Lib.decDigits n.toNat := by
  unfold Lib.itoa
  rw [if_neg (by omega)]
/-- a word's number -/
def numV (l : List UInt8) : Int := l.foldl (fun n x => 10 * n + ((x.toNat : Int) - 48)) 0
theorem numV_snoc (l : List UInt8) (x : UInt8) : numV (l ++ [x]) = 10 * numV l + ((x.toNat : Int) - 48) := by simp [numV, List.foldl_append]
abbrev isDig (x : UInt8) : Prop := 48 ≤ x.toNat ∧ x.toNat ≤ 57
theorem numV_take {s : ByteArray} {k : Nat} (hk : k < s.size) : numV (s.data.toList.take (k + 1)) = 10 * numV (s.data.toList.take k) + (((sAt s k).toNat : Int) - 48) := by
  rw [List.take_add_one, List.getElem?_eq_getElem (by rw [size_list]; exact hk)]
  have e : sAt s k = s.data.toList[k]'(by rw [size_list]; exact hk) := by
    have hk2 : k < s.data.toList.length := by rw [size_list]; exact hk
    show s.data.toList.getD k 0 = _
    rw [List.getD_eq_getElem?_getD, List.getElem?_eq_getElem hk2]
    rfl
  rw [e]
  exact numV_snoc _ _
def pw (k : Nat) : Int := 10 ^ k
theorem pw_s (k : Nat) : pw (k + 1) = 10 * pw k := by unfold pw; rw [Int.pow_succ]; omega
theorem pw_le {k : Nat} (h : k ≤ 9) : pw k ≤ 1000000000 := by
  have key : ∀ i : Fin 10, pw i.val ≤ 1000000000 := by decide
  exact key ⟨k, by omega⟩
theorem u8d {k : Nat} (h : k < 10) : (u8of (48 + (k : Int))).toNat = 48 + k := by
  have := u8of_int (48 + (k : Int))
  omega
theorem dec_props (N : Nat) : numV (Lib.decDigits N) = N ∧ (∀ x ∈ Lib.decDigits N, isDig x) ∧ Lib.decDigits N ≠ [] ∧ (1 ≤ N → ((Lib.decDigits N).headD 0).toNat ≠ 48) := by
  induction N using Nat.strongRecOn with
  | _ N ih =>
    by_cases h : N ≤ 9
    · have hd := u8d (k := N) (by omega)
      rw [dec_low h]
      refine ⟨?_, fun x hx => ?_, by simp, fun h1 => ?_⟩
      · show 10 * (0 : Int) + (((u8of (48 + (N : Int))).toNat : Int) - 48) = N
        omega
      · rw [List.mem_singleton.1 hx]
        exact ⟨by omega, by omega⟩
      · show (u8of (48 + (N : Int))).toNat ≠ 48
        omega
    · obtain ⟨i1, i2, i3, i4⟩ := ih (N / 10) (by omega)
      have hd := u8d (k := N % 10) (Nat.mod_lt N (by omega))
      rw [dec_high h]
      refine ⟨?_, fun x hx => ?_, by simp, fun h1 => ?_⟩
      · rw [numV_snoc, i1]
        omega
      · rcases List.mem_append.1 hx with hx | hx
        · exact i2 x hx
        · rw [List.mem_singleton.1 hx]
          exact ⟨by omega, by omega⟩
      · have h4 := i4 (by omega)
        cases hl : Lib.decDigits (N / 10) with
        | nil => exact absurd hl i3
        | cons y ys =>
          rw [hl] at h4
          exact h4
theorem dec_len : ∀ (k N : Nat), N < 10 ^ (k + 1) → (Lib.decDigits N).length ≤ k + 1
  | 0, N, h => by rw [dec_low (by omega)]; simp
  | k + 1, N, h => by
    by_cases h9 : N ≤ 9
    · rw [dec_low h9]; simp
    · have ih := dec_len k (N / 10) (by rw [Nat.pow_succ] at h; omega)
      rw [dec_high h9, List.length_append]
      simp only [List.length_cons, List.length_nil]
      omega
theorem dec_no (N : Nat) : (32 : UInt8) ∉ Lib.decDigits N ∧ (10 : UInt8) ∉ Lib.decDigits N := by
  have h2 := (dec_props N).2.1
  exact ⟨fun h => absurd (h2 _ h).1 (by decide), fun h => absurd (h2 _ h).1 (by decide)⟩
theorem map_inj_list : ∀ {l l' : List ByteArray}, l.map (·.data.toList) = l'.map (·.data.toList) → l = l'
  | [], [], _ => rfl
  | [], _ :: _, h => by simp at h
  | _ :: _, [], h => by simp at h
  | a :: l, b :: l', h => by
    simp only [List.map_cons, List.cons.injEq] at h
    rw [str_ext h.1, map_inj_list h.2]
theorem snoc_of {α : Type} {l : List α} (h : l ≠ []) : ∃ xs x, l = xs ++ [x] := ⟨l.dropLast, l.getLast h, (List.dropLast_concat_getLast h).symm⟩
/-- digits are their number's digits -/
theorem dec_num : ∀ (n : Nat) (l : List UInt8), l.length = n → l ≠ [] → (∀ x ∈ l, isDig x) → (2 ≤ l.length → (l.headD 0).toNat ≠ 48) → 0 ≤ numV l ∧ Lib.decDigits (numV l).toNat = l := by
  intro n
  induction n with
  | zero => intro l h hn; exact absurd (List.eq_nil_of_length_eq_zero h) hn
  | succ n ih =>
    intro l hl hn hd hh
    obtain ⟨xs, x, rfl⟩ := snoc_of hn
    have hx := hd x (by simp)
    obtain ⟨x1, x2⟩ := hx
    have hu : u8of (x.toNat : Int) = x := u8of_toNat x
    by_cases hxs : xs = []
    · subst hxs
      have e : numV ([] ++ [x]) = (x.toNat : Int) - 48 := by rw [numV_snoc, show numV [] = 0 from rfl]; omega
      rw [e]
      refine ⟨by omega, ?_⟩
      rw [dec_low (by omega), show (48 : Int) + (((x.toNat : Int) - 48).toNat : Nat) = x.toNat from by omega, hu]
      rfl
    · have hlen : 1 ≤ xs.length := by
        cases xs with
        | nil => exact absurd rfl hxs
        | cons y ys => simp
      have hhd : (xs.headD 0).toNat ≠ 48 := by
        have := hh (by rw [List.length_append]; simp only [List.length_cons, List.length_nil]; omega)
        cases xs with
        | nil => exact absurd rfl hxs
        | cons y ys => exact this
      obtain ⟨i1, i2⟩ := ih xs (by rw [List.length_append] at hl; simp only [List.length_cons, List.length_nil] at hl; omega) hxs (fun y hy => hd y (by simp [hy])) (fun _ => hhd)
      have hpos : 1 ≤ numV xs := by
        refine Classical.byContradiction fun hc => ?_
        have e0 : (numV xs).toNat = 0 := by omega
        rw [e0, dec_low (by omega)] at i2
        rw [← i2] at hhd
        exact hhd (by decide)
      rw [numV_snoc]
      refine ⟨by omega, ?_⟩
      rw [dec_high (by omega)]
      have e1 : (10 * numV xs + ((x.toNat : Int) - 48)).toNat / 10 = (numV xs).toNat := by omega
      have e2 : (48 : Int) + ((10 * numV xs + ((x.toNat : Int) - 48)).toNat % 10 : Nat) = x.toNat := by omega
      rw [e1, i2, e2, hu]
theorem sAt_get {s : ByteArray} {k : Nat} (hk : k < s.size) : s.data.toList[k]'(by rw [size_list]; exact hk) = sAt s k := by
  have hk2 : k < s.data.toList.length := by rw [size_list]; exact hk
  show _ = s.data.toList.getD k 0
  rw [List.getD_eq_getElem?_getD, List.getElem?_eq_getElem hk2]
  rfl
theorem split_any (c : UInt8) (s : ByteArray) : Lib.splitB ⟨#[c]⟩ 0 (Lib.countB s ⟨#[c]⟩) s = (splL c s.data.toList).map bsL := by
  have h := Lib.splitB_data ⟨#[c]⟩ 0 (Lib.countB s ⟨#[c]⟩) s
  have hc : Lib.countB s ⟨#[c]⟩ = s.data.toList.count c := Lib.count_one c s.data.toList
  have h2 : Lib.splitK [c] 0 (s.data.toList.count c) s.data.toList = ((splL c s.data.toList).map bsL).map (·.data.toList) := by
    rw [splitK_one, List.map_map]
    exact (List.map_id _).symm
  rw [hc] at h ⊢
  exact map_inj_list (h.trans h2)
theorem drop_at {s : ByteArray} {k : Nat} (hk : k < s.size) : s.data.toList.drop k = sAt s k :: s.data.toList.drop (k + 1) := by
  have hl := size_list s
  rw [List.drop_eq_getElem_cons (by omega), sAt_get hk]
theorem ext_one {s : ByteArray} {k : Nat} (hk : k < s.size) : s.extract k (k + 1) = ⟨#[sAt s k]⟩ := by
  refine str_ext ?_
  have hl := size_list s
  have e : (s.extract k (k + 1)).data.toList = (s.data.toList.drop k).take 1 := by
    rw [ByteArray.data_extract, Array.toList_extract, List.extract_eq_take_drop, show k + 1 - k = 1 from by omega]
  rw [e, drop_at hk]
  rfl
end Go.Proofs
