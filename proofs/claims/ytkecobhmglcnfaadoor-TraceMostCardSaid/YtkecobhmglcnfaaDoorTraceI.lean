/- Lines and words as marks: plain laws. -/
import Derived.Test.YtkecobhmglcnfaaDoorTraceH
import Derived.Lib.SlicesS
set_option linter.all false
namespace Go.Eng
open Go
theorem spl_join (c : UInt8) : ∀ l : List UInt8, (spl c l).1 ++ ((spl c l).2.map (c :: ·)).flatten = l
  | [] => rfl
  | x :: l => by
    have ih := spl_join c l
    by_cases h : x = c
    · subst h
      simp only [spl, if_true, List.map_cons, List.flatten_cons, List.nil_append, List.cons_append]
      rw [ih]
    · simp only [spl, if_neg h, List.cons_append]
      rw [ih]
theorem spl_no (c : UInt8) : ∀ l : List UInt8, c ∉ (spl c l).1 ∧ ∀ w ∈ (spl c l).2, c ∉ w
  | [] => ⟨by simp [spl], by simp [spl]⟩
  | x :: l => by
    obtain ⟨h1, h2⟩ := spl_no c l
    by_cases h : x = c
    · subst h
      simp only [spl, if_true, List.mem_cons]
      exact ⟨by simp, fun w hw => by rcases hw with rfl | hw; exact h1; exact h2 w hw⟩
    · simp only [spl, if_neg h, List.mem_cons, not_or]
      exact ⟨⟨fun e => h e.symm, h1⟩, h2⟩
theorem spl_len (c : UInt8) : ∀ l : List UInt8, (spl c l).1.length ≤ l.length ∧ (∀ w ∈ (spl c l).2, w.length ≤ l.length) ∧ (spl c l).2.length ≤ l.length
  | [] => ⟨by simp [spl], by simp [spl], by simp [spl]⟩
  | x :: l => by
    obtain ⟨h1, h2, h3⟩ := spl_len c l
    by_cases h : x = c
    · subst h
      simp only [spl, if_true, List.mem_cons, List.length_cons, List.length_nil]
      exact ⟨by omega, fun w hw => by rcases hw with rfl | hw; omega; have := h2 w hw; omega, by omega⟩
    · simp only [spl, if_neg h, List.length_cons]
      exact ⟨by omega, fun w hw => by have := h2 w hw; omega, by omega⟩
/-- strings.Cut at one byte, by the words -/
theorem cut_spl (c : UInt8) (l : List UInt8) : ((spl c l).2 = [] ∧ (spl c l).1 = l ∧ Lib.cut l [c] = (l, [], false)) ∨ ∃ r, Lib.cut l [c] = ((spl c l).1, r, true) ∧ (spl c l).2 = (spl c r).1 :: (spl c r).2 ∧ r.length < l.length := by
  by_cases h : c ∈ l
  · obtain ⟨w, r, e, hw⟩ := List.eq_append_cons_of_mem h
    subst e
    exact .inr ⟨r, by rw [spl_app hw]; exact cut_app hw r, by rw [spl_app hw], by simp; omega⟩
  · exact .inl ⟨by rw [spl_none h], by rw [spl_none h], cut_not h⟩
end Go.Eng
namespace Go.Proofs
open Go.Eng
open Classical
set_option linter.unusedVariables false
set_option maxRecDepth 100000
theorem snoc_of {α : Type} {l : List α} (h : l ≠ []) : ∃ xs x, l = xs ++ [x] := ⟨l.dropLast, l.getLast h, (List.dropLast_concat_getLast h).symm⟩
/-- digits are their number's digits -/
theorem dec_num : ∀ (n : Nat) (l : List UInt8), l.length = n → l ≠ [] → (∀ x ∈ l, isDig x) → (2 ≤ l.length → (l.headD 0).toNat ≠ 48) → 0 ≤ numV l ∧ Lib.decDigits (numV l).toNat = l := by
  intro n
  induction n with
  | zero => intro l h hn; exact absurd (List.eq_nil_of_length_eq_zero h) hn
  | succ n ih =>
    intro l hl hn hd hh
    obtain ⟨xs, x, rfl⟩ := snoc_of hn
    have hx := hd x (by simp)
    obtain ⟨x1, x2⟩ := hx
    have hu : u8of (x.toNat : Int) = x := u8of_toNat x
    by_cases hxs : xs = []
    · subst hxs
      have e : numV ([] ++ [x]) = (x.toNat : Int) - 48 := by rw [numV_snoc, show numV [] = 0 from rfl]; omega
      rw [e]
      refine ⟨by omega, ?_⟩
      rw [dec_low (by omega), show (48 : Int) + (((x.toNat : Int) - 48).toNat : Nat) = x.toNat from by omega, hu]
      rfl
    · have hlen : 1 ≤ xs.length := by
        cases xs with
        | nil => exact absurd rfl hxs
        | cons y ys => simp
      have hhd : (xs.headD 0).toNat ≠ 48 := by
        have := hh (by rw [List.length_append]; simp only [List.length_cons, List.length_nil]; omega)
        cases xs with
        | nil => exact absurd rfl hxs
        | cons y ys => exact this
      obtain ⟨i1, i2⟩ := ih xs (by rw [List.length_append] at hl; simp only [List.length_cons, List.length_nil] at hl; omega) hxs (fun y hy => hd y (by simp [hy])) (fun _ => hhd)
      have hpos : 1 ≤ numV xs := by
        refine Classical.byContradiction fun hc => ?_
        have e0 : (numV xs).toNat = 0 := by omega
        rw [e0, dec_low (by omega)] at i2
        rw [← i2] at hhd
        exact hhd (by decide)
      rw [numV_snoc]
      refine ⟨by omega, ?_⟩
      rw [dec_high (by omega)]
      have e1 : (10 * numV xs + ((x.toNat : Int) - 48)).toNat / 10 = (numV xs).toNat := by omega
      have e2 : (48 : Int) + ((10 * numV xs + ((x.toNat : Int) - 48)).toNat % 10 : Nat) = x.toNat := by omega
      rw [e1, i2, e2, hu]
theorem sAt_get {s : ByteArray} {k : Nat} (hk : k < s.size) : s.data.toList[k]'(by rw [size_list]; exact hk) = sAt s k := by
  have hk2 : k < s.data.toList.length := by rw [size_list]; exact hk
  show _ = s.data.toList.getD k 0
  rw [List.getD_eq_getElem?_getD, List.getElem?_eq_getElem hk2]
  rfl
theorem num_back {w : ByteArray} (h : 0 ≤ numF w) : numP (numF w) ∧ bsL (Lib.itoa (numF w)) = w := by
  unfold numF at *
  by_cases hn : NumOk w
  · rw [if_pos hn] at h ⊢
    have hl := size_list w
    obtain ⟨h1, h2⟩ := dec_num w.size w.data.toList hl (fun e => by have := hn.ne; rw [e] at hl; simp at hl; omega) (fun x hx => by
      obtain ⟨i, hi, rfl⟩ := List.getElem_of_mem hx
      have := hn.dig i (by omega)
      rw [← sAt_get (by omega)] at this
      exact this) (fun h2 => by
      have := hn.lead (by omega)
      have e : (w.data.toList.headD 0) = sAt w 0 := by
        show _ = w.data.toList.getD 0 0
        cases w.data.toList <;> rfl
      rw [e]; exact this)
    refine ⟨⟨h, hn.most⟩, ?_⟩
    rw [itoa_nat h]
    exact str_ext h2
  · rw [if_neg hn] at h; omega
theorem numF_P {w : ByteArray} : -1 ≤ numF w ∧ numF w ≤ 2147483647 := by
  by_cases h : 0 ≤ numF w
  · have := (num_back h).1.2; exact ⟨by omega, this⟩
  · unfold numF at *
    by_cases hn : NumOk w
    · rw [if_pos hn] at h
      have := hn.most
      have hl := size_list w
      have := (dec_num w.size w.data.toList hl (fun e => by have := hn.ne; rw [e] at hl; simp at hl; omega) (fun x hx => by
        obtain ⟨i, hi, rfl⟩ := List.getElem_of_mem hx
        have := hn.dig i (by omega)
        rw [← sAt_get (by omega)] at this
        exact this) (fun h2 => by
        have := hn.lead (by omega)
        have e : (w.data.toList.headD 0) = sAt w 0 := by
          show _ = w.data.toList.getD 0 0
          cases w.data.toList <;> rfl
        rw [e]; exact this)).1
      omega
    · rw [if_neg hn]; omega
/-! names -/
def sortF (x : ByteArray) : Int := Lib.idxOfS (nameL.drop 1) x + 1
theorem sort_name {s : Int} (h : 1 ≤ s ∧ s ≤ 9) : sortF (nameF s) = s := by
  have hs : s = 1 ∨ s = 2 ∨ s = 3 ∨ s = 4 ∨ s = 5 ∨ s = 6 ∨ s = 7 ∨ s = 8 ∨ s = 9 := by omega
  rcases hs with rfl | rfl | rfl | rfl | rfl | rfl | rfl | rfl | rfl <;> decide +kernel
theorem sort_cases (x : ByteArray) : sortF x = 0 ∧ (∀ s, 1 ≤ s ∧ s ≤ 9 → nameF s ≠ x) ∨ (1 ≤ sortF x ∧ sortF x ≤ 9) ∧ nameF (sortF x) = x := by
  by_cases hx : ∃ s, (1 ≤ s ∧ s ≤ 9) ∧ nameF s = x
  · obtain ⟨s, hs, rfl⟩ := hx
    rw [sort_name hs]
    exact .inr ⟨hs, rfl⟩
  · refine .inl ⟨?_, fun s hs e => hx ⟨s, hs, e⟩⟩
    have h := Lib.idxOfS_miss (nameL.drop 1) 9 x (fun j hj e => hx ⟨(j : Int) + 1, ⟨by omega, by omega⟩, by
      rw [← e]
      have key : ∀ j : Fin 9, nameF ((j.val : Int) + 1) = (nameL.drop 1).getD j.val ByteArray.empty := by decide +kernel
      exact key ⟨j, hj⟩⟩)
    unfold sortF
    rw [show List.take 9 (nameL.drop 1) = nameL.drop 1 from by decide +kernel] at h
    rw [h]
    rfl
theorem sort_iff {x : ByteArray} {s : Int} (h : 1 ≤ s ∧ s ≤ 9) : nameF s = x ↔ sortF x = s := by
  constructor
  · rintro rfl; exact sort_name h
  · intro e
    rcases sort_cases x with ⟨h0, _⟩ | ⟨_, h1⟩
    · omega
    · rw [← e]; exact h1
theorem sortF_P (x : ByteArray) : 0 ≤ sortF x ∧ sortF x ≤ 9 := by
  rcases sort_cases x with ⟨h0, _⟩ | ⟨h1, _⟩ <;> omega
/-! bytes -/
theorem dgU_half : ∀ c : UInt8, halfV (c.toNat : Int) ≤ 15 → dgU (halfV (c.toNat : Int)) = c := by
  have key : ∀ c : Fin 256, halfV ((c.val : Nat) : Int) ≤ 15 → dgU (halfV ((c.val : Nat) : Int)) = u8of ((c.val : Nat) : Int) := by decide +kernel
  intro c h
  have := key ⟨c.toNat, c.toNat_lt⟩ h
  rw [this]
  exact u8of_toNat c
theorem hex_pairs {s : ByteArray} (hd : ∀ i, i < s.size → hv s i ≤ 15) : ∀ k, 2 * k ≤ s.size → (pairsF s k).flatMap hx2 = s.data.toList.take (2 * k)
  | 0, _ => by simp [pairsF]
  | k + 1, h => by
    have ih := hex_pairs hd k (by omega)
    have hl := size_list s
    have b1 := halfV_bd (sAt s (2 * k)).toNat
    have b2 := halfV_bd (sAt s (2 * k + 1)).toNat
    have a1 := hd (2 * k) (by omega)
    have a2 := hd (2 * k + 1) (by omega)
    have d1 := dgU_half _ a1
    have d2 := dgU_half _ a2
    rw [pairsF, List.flatMap_append, ih, show 2 * (k + 1) = 2 * k + 1 + 1 from by omega, List.take_add_one, List.take_add_one, List.getElem?_eq_getElem (by omega), List.getElem?_eq_getElem (by omega), List.append_assoc]
    congr 1
    rw [sAt_get (show 2 * k < s.size by omega), sAt_get (show 2 * k + 1 < s.size by omega)]
    have key : ∀ x y : Int, 0 ≤ x → x ≤ 15 → 0 ≤ y → y ≤ 15 → ((u8of (16 * x + y)).toNat : Int) / 16 = x ∧ ((u8of (16 * x + y)).toNat : Int) % 16 = y := fun x y h1 h2 h3 h4 => by
      rw [u8of_int]
      omega
    obtain ⟨e3, e4⟩ := key (hv s (2 * k)) (hv s (2 * k + 1)) b1.1 a1 b2.1 a2
    show hx2 _ ++ [] = [sAt s (2 * k)] ++ [sAt s (2 * k + 1)]
    unfold hx2
    rw [e3, e4]
    show [dgU _, dgU _] = [sAt s (2 * k), sAt s (2 * k + 1)]
    rw [d1, d2]
abbrev dashB : ByteArray := ⟨#[45]⟩
def DatG (w : ByteArray) : Prop := w = dashB ∨ DataOk w
noncomputable def datF (w : ByteArray) : ByteArray := if w = dashB then ⟨#[]⟩ else if DataOk w then bsL (pairsF w (w.size / 2)) else ⟨#[]⟩
theorem dash_no : ¬ DataOk dashB := fun h => absurd h.ev (by decide)
theorem dat_back {w : ByteArray} (h : DatG w) : bsL (hexF (datF w)) = w := by
  rcases h with rfl | h
  · unfold datF; rw [if_pos rfl]; rfl
  · have hne : w ≠ dashB := fun e => dash_no (e ▸ h)
    unfold datF
    rw [if_neg hne, if_pos h]
    have hl := size_list w
    have hpl := pairs_len w (w.size / 2)
    have h1 := h.ne
    have h2 := h.ev
    unfold hexF
    rw [if_neg (by rw [bsL_size, hpl]; omega), bsL_list, hex_pairs h.all _ (by omega), List.take_of_length_le (by omega)]
theorem dat_hex (d : ByteArray) : DatG (bsL (hexF d)) ∧ datF (bsL (hexF d)) = d := by
  unfold hexF
  by_cases h0 : d.size = 0
  · rw [if_pos h0]
    refine ⟨.inl rfl, ?_⟩
    unfold datF
    rw [if_pos rfl]
    exact (size_zero h0).symm
  · rw [if_neg h0]
    have hl := size_list d
    have hok := dataOk_hex (l := d.data.toList) (by omega)
    have hne : bsL (d.data.toList.flatMap hx2) ≠ dashB := fun e => dash_no (e ▸ hok)
    refine ⟨.inr hok, ?_⟩
    unfold datF
    rw [if_neg hne, if_pos hok, pairs_hex _ _ (by rw [bsL_size, hx2_len]; omega), bsL_size, hx2_len, List.take_of_length_le (by omega)]
theorem dat_len (w : ByteArray) : (datF w).size ≤ w.size := by
  unfold datF
  split
  · exact Nat.zero_le _
  · split
    · rw [bsL_size, pairs_len]; omega
    · exact Nat.zero_le _
/-! a line -/
abbrev wds (l : List UInt8) : List ByteArray := (splL 32 l).map bsL
abbrev wd (l : List UInt8) (i : Nat) : ByteArray := (wds l).getD i strE.d
noncomputable def rdM (l : List UInt8) : Mrk := ⟨numF (wd l 0), sortF (wd l 1), numF (wd l 2), numF (wd l 3), numF (wd l 4), datF (wd l 5)⟩
def rdOk (l : List UInt8) : Prop := (wds l).length = 6 ∧ DatG (wd l 5) ∧ MayM (rdM l)
theorem wds_line {m : Mrk} (hm : MayM m) : wds (joinF m) = wordsF m := by
  unfold wds
  rw [joinF_spl hm, List.map_map]
  have : (bsL ∘ fun x : ByteArray => x.data.toList) = id := by funext x; exact str_ext rfl
  rw [this, List.map_id]
theorem rd_line {m : Mrk} (hm : MayM m) : rdM (joinF m) = m ∧ rdOk (joinF m) := by
  have hw := wds_line hm
  have n1 : ∀ {n : Int}, numP n → numF (bsL (Lib.itoa n)) = n := fun {n} h => by
    rw [itoa_nat h.1, numF_dec (by have := h.2; omega)]
    have := h.1
    omega
  have e : rdM (joinF m) = m := by
    unfold rdM wd
    rw [hw]
    show Mrk.mk (numF (bsL (Lib.itoa m.t))) (sortF (nameF m.s)) (numF (bsL (Lib.itoa m.a))) (numF (bsL (Lib.itoa m.b))) (numF (bsL (Lib.itoa m.n))) (datF (bsL (hexF m.d))) = m
    rw [n1 hm.t, n1 hm.a, n1 hm.b, n1 hm.n, sort_name hm.s, (dat_hex m.d).2]
  refine ⟨e, ?_, ?_, by rw [e]; exact hm⟩
  · rw [hw]; rfl
  · unfold wd
    rw [hw]
    exact (dat_hex m.d).1
theorem rd_back {l : List UInt8} (h : rdOk l) : joinF (rdM l) = l := by
  obtain ⟨h6, hd, hm⟩ := h
  have hj := spl_join 32 l
  have e1 := (num_back (w := wd l 0) hm.t.1).2
  have e2 := (num_back (w := wd l 2) hm.a.1).2
  have e3 := (num_back (w := wd l 3) hm.b.1).2
  have e4 := (num_back (w := wd l 4) hm.n.1).2
  have e5 : nameF (sortF (wd l 1)) = wd l 1 := by
    rcases sort_cases (wd l 1) with ⟨h0, _⟩ | ⟨_, h1⟩
    · have := hm.s.1
      change 1 ≤ sortF (wd l 1) at this
      omega
    · exact h1
  have e6 := dat_back hd
  have hw : wordsF (rdM l) = [wd l 0, wd l 1, wd l 2, wd l 3, wd l 4, wd l 5] := by
    show [bsL (Lib.itoa (numF (wd l 0))), nameF (sortF (wd l 1)), bsL (Lib.itoa (numF (wd l 2))), bsL (Lib.itoa (numF (wd l 3))), bsL (Lib.itoa (numF (wd l 4))), bsL (hexF (datF (wd l 5)))] = _
    rw [e1, e2, e3, e4, e5, e6]
  unfold joinF
  rw [hw]
  unfold wd wds at *
  simp only [splL, List.length_map, List.length_cons] at h6 ⊢
  generalize (spl 32 l).1 = a at *
  generalize (spl 32 l).2 = r at *
  match r, h6 with
  | [b, c, d, e, f], _ =>
    rw [← hj]
    simp [Lib.join_cons, Lib.joinTail]
theorem rd_iff (l : List UInt8) : rdOk l ↔ ∃ m, MayM m ∧ joinF m = l :=
  ⟨fun h => ⟨rdM l, h.2.2, rd_back h⟩, fun ⟨m, hm, e⟩ => e ▸ (rd_line hm).2⟩
theorem rdM_B (l : List UInt8) : MrB (rdM l) := by
  have h1 := numF_P (w := wd l 0)
  have h2 := numF_P (w := wd l 2)
  have h3 := numF_P (w := wd l 3)
  have h4 := numF_P (w := wd l 4)
  have h5 := sortF_P (wd l 1)
  exact ⟨by show Z64 (numF _); omega, by show _ ≤ sortF _ ∧ sortF _ ≤ _; omega, by show Z64 (numF _); omega, by show Z64 (numF _); omega, by show Z64 (numF _); omega⟩
theorem wd_len (l : List UInt8) (i : Nat) : (wd l i).size ≤ l.length := by
  obtain ⟨h1, h2, _⟩ := spl_len 32 l
  unfold wd wds
  by_cases hi : i < (splL 32 l).length
  · have e : ((splL 32 l).map bsL).getD i strE.d = bsL ((splL 32 l)[i]) := by simp [List.getD, hi]
    rw [e, bsL_size]
    have hm : (splL 32 l)[i] ∈ splL 32 l := List.getElem_mem _
    rcases List.mem_cons.1 hm with h | h
    · rw [h]; exact h1
    · exact h2 _ h
  · have e : ((splL 32 l).map bsL).getD i strE.d = strE.d := by
      rw [List.getD_eq_getElem?_getD, List.getElem?_eq_none (by simpa using hi)]
      rfl
    rw [e]
    exact Nat.zero_le _
/-! a text's lines -/
noncomputable def prsA : List Mrk → List UInt8 → List (List UInt8) → List Mrk × Int × Int
  | acc, l, [] => if l = [] then (acc, 0, 0) else ([], (acc.length : Int) + 1, 3)
  | acc, l, l2 :: r => if rdOk l then (if acc.length = 4096 then ([], (acc.length : Int) + 1, 4) else prsA (acc ++ [rdM l]) l2 r) else ([], (acc.length : Int) + 1, 3)
noncomputable def prsF (s : List UInt8) : List Mrk × Int × Int := prsA [] (spl 10 s).1 (spl 10 s).2
theorem spl_line {m : Mrk} (hm : MayM m) (r : List UInt8) : spl 10 (lineF m ++ r) = (joinF m, (spl 10 r).1 :: (spl 10 r).2) := by
  unfold lineF
  rw [List.append_assoc]
  exact spl_app (joinF_no hm) r
theorem prs_prn : ∀ (xs : List Mrk) (acc : List Mrk), (∀ m ∈ xs, MayM m) → acc.length ≤ 4096 → prsA acc (spl 10 (prnF xs)).1 (spl 10 (prnF xs)).2 = if acc.length + xs.length ≤ 4096 then (acc ++ xs, 0, 0) else ([], 4097, 4)
  | [], acc, _, h => by
    show prsA acc [] [] = _
    rw [prsA, if_pos rfl, if_pos (by simpa using h), List.append_nil]
  | x :: xs, acc, hx, h => by
    have hm := hx x (by simp)
    have e : prnF (x :: xs) = lineF x ++ prnF xs := by simp [prnF]
    obtain ⟨r1, r2⟩ := rd_line hm
    rw [e, spl_line hm, prsA, if_pos r2, r1]
    by_cases h4 : acc.length = 4096
    · rw [if_pos h4, if_neg (by rw [List.length_cons]; omega), h4]
      rfl
    · rw [if_neg h4, prs_prn xs (acc ++ [x]) (fun m hm => hx m (by simp [hm])) (by rw [List.length_append]; simp only [List.length_cons, List.length_nil]; omega)]
      simp only [List.length_append, List.length_cons, List.length_nil, List.append_assoc, List.cons_append, List.nil_append]
      rw [show acc.length + (0 + 1) + xs.length = acc.length + (xs.length + 1) from by omega]
theorem prs_ok : ∀ (r : List (List UInt8)) (acc : List Mrk) (l : List UInt8), (prsA acc l r).2.2 = 0 → acc.length ≤ 4096 → ∃ ms, prsA acc l r = (acc ++ ms, 0, 0) ∧ (∀ m ∈ ms, MayM m) ∧ prnF ms = l ++ (r.map (10 :: ·)).flatten ∧ acc.length + ms.length ≤ 4096
  | [], acc, l, h, ha => by
    rw [prsA] at h ⊢
    by_cases hl : l = []
    · subst hl
      exact ⟨[], by rw [if_pos rfl, List.append_nil], by simp, rfl, by simpa using ha⟩
    · rw [if_neg hl] at h
      exact absurd (show (3 : Int) = 0 from h) (by decide)
  | l2 :: r, acc, l, h, ha => by
    rw [prsA] at h ⊢
    by_cases hk : rdOk l
    · rw [if_pos hk] at h ⊢
      by_cases h4 : acc.length = 4096
      · rw [if_pos h4] at h
        exact absurd (show (4 : Int) = 0 from h) (by decide)
      · rw [if_neg h4] at h ⊢
        obtain ⟨ms, e1, e2, e3, e4⟩ := prs_ok r (acc ++ [rdM l]) l2 h (by rw [List.length_append]; simp only [List.length_cons, List.length_nil]; omega)
        refine ⟨rdM l :: ms, by rw [e1, List.append_assoc]; rfl, fun m hm => ?_, ?_, ?_⟩
        · rcases List.mem_cons.1 hm with rfl | hm
          · exact hk.2.2
          · exact e2 m hm
        · have e : prnF (rdM l :: ms) = lineF (rdM l) ++ prnF ms := by simp [prnF]
          rw [e, e3, lineF, rd_back hk]
          simp
        · rw [List.length_append] at e4
          simp only [List.length_cons, List.length_nil] at e4 ⊢
          omega
    · rw [if_neg hk] at h
      exact absurd (show (3 : Int) = 0 from h) (by decide)
theorem prs_no : ∀ (r : List (List UInt8)) (acc : List Mrk) (l : List UInt8), (prsA acc l r).2.2 ≠ 0 → (prsA acc l r).1 = []
  | [], acc, l, h => by
    rw [prsA] at h ⊢
    by_cases hl : l = []
    · rw [if_pos hl] at h; exact absurd rfl h
    · rw [if_neg hl]
  | l2 :: r, acc, l, h => by
    rw [prsA] at h ⊢
    by_cases hk : rdOk l
    · rw [if_pos hk] at h ⊢
      by_cases h4 : acc.length = 4096
      · rw [if_pos h4]
      · rw [if_neg h4] at h ⊢
        exact prs_no r _ _ h
    · rw [if_neg hk]
theorem prsF_prn {xs : List Mrk} (h : ∀ m ∈ xs, MayM m) : prsF (prnF xs) = if xs.length ≤ 4096 then (xs, 0, 0) else ([], 4097, 4) := by
  unfold prsF
  rw [prs_prn xs [] h (by simp)]
  simp
theorem prsF_ok {s : List UInt8} (h : (prsF s).2.2 = 0) : ∃ ms, prsF s = (ms, 0, 0) ∧ (∀ m ∈ ms, MayM m) ∧ prnF ms = s ∧ ms.length ≤ 4096 := by
  obtain ⟨ms, h1, h2, h3, h4⟩ := prs_ok _ _ _ h (by simp)
  exact ⟨ms, h1, h2, h3.trans (spl_join 10 s), by simpa using h4⟩
end Go.Proofs
