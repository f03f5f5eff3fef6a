/- A listing's lines, assembled: plain. -/
import Derived.Test.YtloaknocdnpedaaGreatDoorDisB
import Derived.Test.YtloaknocdnpedaaGreatDoorAsmW
set_option linter.all false
namespace Go.Proofs
open Go.Eng
open Classical
set_option linter.unusedVariables false
set_option maxRecDepth 100000
set_option maxHeartbeats 4000000
def pcZ' (p : Pc) : Nat := if p.i then 4 else 1
abbrev goesP (p : Pc) : Prop := p.i = true ∧ 11 ≤ p.c ∧ p.c ≤ 13
/-- a target of pieces -/
def tgt (l : List Pc) (e n : Int) : Prop := (n = e ∨ ∃ p ∈ l, p.a = n) ∧ ∃ p ∈ l, goesP p ∧ p.n = n
def byteW : List UInt8 := [98, 121, 116, 101, 32]
abbrev labW (n : Int) : List UInt8 := (nmS n).data.toList ++ [58]
noncomputable def pcT (T : Int → Prop) (p : Pc) : List UInt8 :=
  if p.i then joinW (insWs p.c.toNat p.x.toNat p.n.toNat (if goesP p ∧ T p.n then nmS p.n else decB p.n.toNat)) else byteW ++ Lib.decDigits p.b.toNat
noncomputable def pcL (T : Int → Prop) (p : Pc) : List (List UInt8) := (if T p.a then [labW p.a] else []) ++ [pcT T p]
noncomputable def lstL (T : Int → Prop) (e : Int) (l : List Pc) : List (List UInt8) := l.flatMap (pcL T) ++ (if T e then [labW e] else [])
noncomputable def lstT (T : Int → Prop) (e : Int) (l : List Pc) : List UInt8 := (lstL T e l).flatMap (· ++ [10])
/-- pieces that may be, one behind the other -/
structure PcOk (p : Pc) : Prop where
  ins : p.i = true → mayI p.c p.x p.n
  byt : p.i = false → 0 ≤ p.b ∧ p.b ≤ 255
def chn (e : Nat) : Nat → List Pc → Prop
  | k, [] => k = e
  | k, p :: l => p.a = (k : Int) ∧ PcOk p ∧ chn e (k + pcZ' p) l
theorem chn_le {e : Nat} : ∀ {l : List Pc} {k : Nat}, chn e k l → k ≤ e
  | [], k, h => Nat.le_of_eq h
  | p :: l, k, h => by have := chn_le h.2.2; omega
theorem cut_chn (s : ByteArray) : ∀ (d k : Nat), k + d = s.size → chn s.size k (cutF s k) := by
  intro d
  induction d using Nat.strongRecOn with
  | _ d ih =>
    intro k hk
    by_cases h0 : k < s.size
    · by_cases hi : insAt s k
      · have h4 := hi.1
        rw [cut_i hi]
        exact ⟨rfl, ⟨fun _ => hi.2, fun h => absurd h (by show ¬ true = false; decide)⟩, ih (d - 4) (by omega) (k + 4) (by omega)⟩
      · rw [cut_b h0 hi]
        refine ⟨rfl, ⟨fun h => absurd h (by show ¬ false = true; decide), fun _ => ?_⟩, ih (d - 1) (by omega) (k + 1) (by omega)⟩
        have := u8_lt (sAt s k)
        exact ⟨Int.natCast_nonneg _, by show ((sAt s k).toNat : Int) ≤ 255; omega⟩
    · rw [cut_e (by omega)]
      show k = s.size
      omega
/-- the bytes of pieces -/
def pcB' (p : Pc) : List UInt8 := if p.i then [u8of p.c, u8of p.x] ++ p2 p.n else [u8of p.b]
theorem two_u (x y : UInt8) : p2 ((x.toNat : Int) + 256 * (y.toNat : Int)) = [x, y] := by
  have h1 := u8_lt x
  have h2 := u8_lt y
  have e1 : u8of ((x.toNat : Int) + 256 * (y.toNat : Int)) = x := UInt8.toNat_inj.1 (by have := u8of_int ((x.toNat : Int) + 256 * (y.toNat : Int)); omega)
  have e2 : u8of (((x.toNat : Int) + 256 * (y.toNat : Int)) / 256) = y := UInt8.toNat_inj.1 (by have := u8of_int (((x.toNat : Int) + 256 * (y.toNat : Int)) / 256); omega)
  unfold p2
  rw [e1, e2]
theorem cut_bytes (s : ByteArray) : ∀ (d k : Nat), k + d = s.size → (cutF s k).flatMap pcB' = s.data.toList.drop k := by
  intro d
  induction d using Nat.strongRecOn with
  | _ d ih =>
    intro k hk
    by_cases h0 : k < s.size
    · by_cases hi : insAt s k
      · have h4 := hi.1
        rw [cut_i hi, List.flatMap_cons, ih (d - 4) (by omega) (k + 4) (by omega), drop_at h0, drop_at (show k + 1 < s.size by omega), drop_at (show k + 1 + 1 < s.size by omega), drop_at (show k + 1 + 1 + 1 < s.size by omega)]
        have e : ∀ j, j < 4 → sAt (s.extract k s.size) j = sAt s (k + j) := fun j hj => sAt_extract (by omega) (Nat.le_refl _)
        show ([u8of (insC (s.extract k s.size)), u8of (insX (s.extract k s.size))] ++ p2 (insN (s.extract k s.size))) ++ _ = _
        have e0 : insC (s.extract k s.size) = ((sAt s k).toNat : Int) := by show ((sAt (s.extract k s.size) 0).toNat : Int) = _; rw [e 0 (by omega)]; rfl
        have e1 : insX (s.extract k s.size) = ((sAt s (k + 1)).toNat : Int) := by show ((sAt (s.extract k s.size) 1).toNat : Int) = _; rw [e 1 (by omega)]
        have e2 : insN (s.extract k s.size) = ((sAt s (k + 1 + 1)).toNat : Int) + 256 * ((sAt s (k + 1 + 1 + 1)).toNat : Int) := by
          show ((sAt (s.extract k s.size) 2).toNat : Int) + 256 * ((sAt (s.extract k s.size) 3).toNat : Int) = _
          rw [e 2 (by omega), e 3 (by omega)]
        rw [e0, e1, e2, u8of_toNat, u8of_toNat, two_u]
        rfl
      · rw [cut_b h0 hi, List.flatMap_cons, ih (d - 1) (by omega) (k + 1) (by omega), drop_at h0]
        show [u8of ((sAt s k).toNat : Int)] ++ _ = _
        rw [u8of_toNat]
        rfl
    · rw [cut_e (by omega), List.drop_eq_nil_of_le (by rw [size_list]; omega)]
      rfl
/-! names -/
theorem nm_ltr (n : Nat) : ∀ x ∈ nm n, ltr x := by
  induction n using Nat.strongRecOn with
  | _ n ih =>
    have hd : ltr (u8of (97 + ((n % 26 : Nat) : Int))) := by
      have := u8of_int (97 + ((n % 26 : Nat) : Int))
      have := Nat.mod_lt n (show 0 < 26 by omega)
      exact ⟨by omega, by omega⟩
    intro x hx
    by_cases h : n < 26
    · rw [nm_low h] at hx
      rw [List.mem_singleton.1 hx]; exact hd
    · rw [nm_high h] at hx
      rcases List.mem_append.1 hx with hx | hx
      · exact ih (n / 26 - 1) (by omega) x hx
      · rw [List.mem_singleton.1 hx]; exact hd
theorem nm_len4 {n : Nat} (h : n ≤ 65535) : (nm n).length ≤ 4 := by
  by_cases h1 : n < 26
  · rw [nm_low h1]; simp
  · rw [nm_high h1, List.length_append]
    by_cases h2 : n / 26 - 1 < 26
    · rw [nm_low h2]; simp
    · rw [nm_high h2, List.length_append]
      by_cases h3 : (n / 26 - 1) / 26 - 1 < 26
      · rw [nm_low h3]; simp
      · rw [nm_high h3, List.length_append, nm_low (by omega)]; simp
theorem nmS_eq {n : Nat} (h : n ≤ 65535) : nmS (n : Int) = bsL (nm n) := by
  unfold nmS
  rw [if_pos (by omega)]
  rfl
theorem nmS_ltr {n : Nat} (h : n ≤ 65535) : Ltrs (nmS (n : Int)) := by
  rw [nmS_eq h]
  refine ⟨?_, ?_, fun i hi => ?_⟩
  · rw [bsL_size]
    cases hq : nm n with
    | nil => exact absurd hq (nm_ne n)
    | cons x r => simp
  · rw [bsL_size]; have := nm_len4 h; omega
  · rw [← sAt_get (s := bsL (nm n)) (k := i) hi]
    exact nm_ltr n _ (List.getElem_mem _)
theorem nmS_inj {n m : Nat} (h : n ≤ 65535) (h2 : m ≤ 65535) (e : nmS (n : Int) = nmS (m : Int)) : n = m := by
  rw [nmS_eq h, nmS_eq h2] at e
  have := congrArg (fun x => x.data.toList) e
  exact nm_inj n m this
theorem ltr_no {w : ByteArray} (h : Ltrs w) : no32 w ∧ (10 : UInt8) ∉ w.data.toList := by
  have hm : ∀ x ∈ w.data.toList, 97 ≤ x.toNat := fun x hx => by
    obtain ⟨i, hi, e⟩ := List.getElem_of_mem hx
    have hi2 : i < w.size := by rw [← size_list]; exact hi
    have := h.all i hi2
    rw [← e, sAt_get hi2]
    exact this.1
  exact ⟨fun hc => absurd (hm _ hc) (by decide), fun hc => absurd (hm _ hc) (by decide)⟩
theorem ln_lab {n : Nat} (h : n ≤ 65535) : lnF (labW (n : Int)) = ⟨nmS (n : Int), [], [], noB, false⟩ := lab_line (nmS_ltr h)
theorem lab_no10 {n : Nat} (h : n ≤ 65535) : (10 : UInt8) ∉ labW (n : Int) := by
  intro hc
  rcases List.mem_append.1 hc with hc | hc
  · exact (ltr_no (nmS_ltr h)).2 hc
  · exact absurd (List.mem_singleton.1 hc) (by decide)
/-! a piece's line -/
theorem ln_byte {n : Nat} (h : n ≤ 255) : lnF (byteW ++ Lib.decDigits n) = ⟨noB, [(n : Int)], [1], noB, false⟩ := by
  have hd := dec_no n
  have hb : byteW ++ Lib.decDigits n = joinW [byteB, decB n] := rfl
  have hw : wds (byteW ++ Lib.decDigits n) = [byteB, decB n] := by
    rw [hb]
    refine wds_join _ (by simp) fun w hw => ?_
    simp only [List.mem_cons, List.not_mem_nil, or_false] at hw
    rcases hw with rfl | rfl
    · decide
    · exact hd.1
  have hn := numA_dec (N := n) (m := 255) (by omega) (by omega)
  unfold lnF
  rw [if_neg (by rintro (h | h); exact absurd h (by simp [byteW]); exact absurd h (by show ¬ (98 : UInt8).toNat = 35; decide)), hw]
  unfold wlnF
  rw [if_neg (fun h => absurd h.1 (by simp))]
  refine (if_pos ⟨rfl, rfl⟩).trans ?_
  show Ln.mk noB [numA (decB n) 255] [1] noB (decide (numA (decB n) 255 < 0)) = _
  rw [hn, decide_eq_false (by omega)]
theorem ln_name {c x n : Nat} (h : mayN c x n) (hc : 11 ≤ c ∧ c ≤ 13) (hn : n ≤ 65535) : lnF (joinW (insWs c x n (nmS (n : Int)))) = ⟨noB, [(c : Int), x, 0], [1, 1, 2], nmS (n : Int), false⟩ := by
  obtain ⟨h1, h2, h3, h4, h5, h6⟩ := h
  have hL := nmS_ltr hn
  rw [ln_code h1 (ltr_no hL).1]
  have rx := regA_dec h2
  by_cases c1 : c = 11
  · subst c1
    obtain rfl : x = 0 := h6 (by omega)
    have e : insWs 11 0 n (nmS (n : Int)) = [codeN 11, nmS (n : Int)] := rfl
    unfold insF
    rw [e, if_neg (by decide), if_pos (by decide), if_pos (show [codeN 11, nmS (n : Int)].length = 2 from rfl)]
    show valF _ (nmS (n : Int)) = _
    unfold valF
    rw [if_pos hL]
    rfl
  · have e : insWs c x n (nmS (n : Int)) = [codeN c, regB x, nmS (n : Int)] := by
      unfold insWs
      rw [if_pos (by omega), if_neg (by omega), if_pos (by omega)]
      rfl
    unfold insF
    rw [e, if_neg (by omega), if_neg (by omega), if_pos (show [codeN c, regB x, nmS (n : Int)].length = 3 from rfl), if_neg (by omega), if_neg (by omega)]
    show valF ⟨noB, [(c : Int), regA (regB x)], [1, 1], noB, decide (regA (regB x) < 0)⟩ (nmS (n : Int)) = _
    unfold valF
    rw [if_pos hL, rx, decide_eq_false (by omega)]
    rfl
theorem may_nat {c x n : Int} (h : mayI c x n) : mayN c.toNat x.toNat n.toNat ∧ ((c.toNat : Int) = c ∧ (x.toNat : Int) = x ∧ (n.toNat : Int) = n) := by
  obtain ⟨h1, h2, h3, h4, h5, h6, h7, h8, h9⟩ := h
  refine ⟨⟨by omega, by omega, by omega, fun h => ?_, fun h => ?_, fun h => ?_⟩, by omega, by omega, by omega⟩
  · have := h7 (by omega); omega
  · have := h8 (by omega); omega
  · have := h9 (by omega); omega
/-- a piece's line, read -/
noncomputable def pcLn (T : Int → Prop) (p : Pc) : Ln :=
  if p.i then (if goesP p ∧ T p.n then ⟨noB, [p.c, p.x, 0], [1, 1, 2], nmS p.n, false⟩ else ⟨noB, [p.c, p.x, p.n], [1, 1, 2], noB, false⟩) else ⟨noB, [p.b], [1], noB, false⟩
theorem ln_pc {T : Int → Prop} {p : Pc} (h : PcOk p) : lnF (pcT T p) = pcLn T p := by
  unfold pcT pcLn
  by_cases hi : p.i = true
  · obtain ⟨hm, e1, e2, e3⟩ := may_nat (h.ins hi)
    have hmi := h.ins hi
    rw [if_pos hi, if_pos hi]
    by_cases hg : goesP p ∧ T p.n
    · rw [if_pos hg, if_pos hg]
      have := ln_name hm (by have := hg.1.2; omega) (by omega)
      rw [e1, e2, e3] at this
      exact this
    · rw [if_neg hg, if_neg hg]
      have := ln_ins hm
      rw [e1, e2, e3] at this
      exact this
  · have hf : p.i = false := by cases hq : p.i; rfl; exact absurd hq hi
    have hb := h.byt hf
    rw [if_neg hi, if_neg hi]
    have := ln_byte (n := p.b.toNat) (by omega)
    rw [show ((p.b.toNat : Nat) : Int) = p.b by omega] at this
    exact this
theorem pc_no10 {T : Int → Prop} {p : Pc} (h : PcOk p) : (10 : UInt8) ∉ pcT T p := by
  unfold pcT
  by_cases hi : p.i = true
  · obtain ⟨hm, e1, e2, e3⟩ := may_nat (h.ins hi)
    rw [if_pos hi]
    refine insWs_no10 hm.1 ?_
    by_cases hg : goesP p ∧ T p.n
    · rw [if_pos hg, ← e3]
      exact (ltr_no (nmS_ltr (by have := hm.2.2.1; omega))).2
    · rw [if_neg hg]
      exact (dec_no _).2
  · rw [if_neg hi]
    intro hc
    rcases List.mem_append.1 hc with hc | hc
    · exact absurd hc (by decide)
    · exact (dec_no _).2 hc
theorem pcLn_lab (T : Int → Prop) (p : Pc) : (pcLn T p).lab = noB := by
  unfold pcLn
  split
  · split <;> rfl
  · rfl
theorem pcLn_bad (T : Int → Prop) (p : Pc) : (pcLn T p).bad = false := by
  unfold pcLn
  split
  · split <;> rfl
  · rfl
theorem pcLn_sz (T : Int → Prop) (p : Pc) : szF (pcLn T p) = (pcZ' p : Nat) := by
  unfold pcLn pcZ'
  split
  · split <;> rfl
  · rfl
/-! all lines -/
theorem lst_cons (T : Int → Prop) (e : Int) (p : Pc) (l : List Pc) : lstL T e (p :: l) = (if T p.a then [labW p.a] else []) ++ pcT T p :: lstL T e l := by
  unfold lstL pcL
  rw [List.flatMap_cons, List.append_assoc, List.append_assoc]
  rfl
theorem lst_nil (T : Int → Prop) (e : Int) : lstL T e [] = if T e then [labW e] else [] := rfl
theorem ln_labs {n : Int} (h : 0 ≤ n ∧ n ≤ 65535) : lnF (labW n) = ⟨nmS n, [], [], noB, false⟩ := by
  obtain ⟨k, rfl⟩ : ∃ k : Nat, n = k := ⟨n.toNat, by omega⟩
  exact ln_lab (by omega)
/-- what a line is: a label of a place from k on, or a piece -/
theorem lst_mem {T : Int → Prop} {e : Nat} (he : e ≤ 60000) : ∀ {l : List Pc} {k : Nat}, chn e k l → ∀ x ∈ lstL T e l, (∃ v : Nat, k ≤ v ∧ v ≤ e ∧ x = labW (v : Int)) ∨ ∃ p ∈ l, PcOk p ∧ x = pcT T p
  | [], k, h, x, hx => by
    have h : k = e := h
    rw [lst_nil] at hx
    split at hx
    · exact .inl ⟨e, by omega, Nat.le_refl _, List.mem_singleton.1 hx⟩
    · exact absurd hx (by simp)
  | p :: l, k, h, x, hx => by
    obtain ⟨h1, h2, h3⟩ := h
    have hle := chn_le h3
    rw [lst_cons] at hx
    rcases List.mem_append.1 hx with hx | hx
    · split at hx
      · exact .inl ⟨k, Nat.le_refl _, by omega, by rw [← h1]; exact List.mem_singleton.1 hx⟩
      · exact absurd hx (by simp)
    · rcases List.mem_cons.1 hx with hx | hx
      · exact .inr ⟨p, by simp, h2, hx⟩
      · rcases lst_mem he h3 x hx with ⟨v, a1, a2, a3⟩ | ⟨q, a1, a2⟩
        · exact .inl ⟨v, by omega, a2, a3⟩
        · exact .inr ⟨q, by simp [a1], a2⟩
theorem lst_no10 {T : Int → Prop} {e : Nat} (he : e ≤ 60000) {l : List Pc} {k : Nat} (h : chn e k l) : ∀ x ∈ lstL T e l, (10 : UInt8) ∉ x := by
  intro x hx
  rcases lst_mem he h x hx with ⟨v, a1, a2, rfl⟩ | ⟨p, _, a1, rfl⟩
  · exact lab_no10 (by omega)
  · exact pc_no10 a1
theorem lst_bad {T : Int → Prop} {e : Nat} (he : e ≤ 60000) {l : List Pc} {k : Nat} (h : chn e k l) : ∀ x ∈ lstL T e l, (lnF x).bad = false := by
  intro x hx
  rcases lst_mem he h x hx with ⟨v, a1, a2, rfl⟩ | ⟨p, _, a1, rfl⟩
  · rw [ln_lab (by omega)]
  · rw [ln_pc a1]; exact pcLn_bad _ _
theorem pcZ'_pos (p : Pc) : 1 ≤ pcZ' p := by unfold pcZ'; split <;> omega
theorem lst_pair {T : Int → Prop} {e : Nat} (he : e ≤ 60000) : ∀ {l : List Pc} {k : Nat}, chn e k l → (lstL T e l).Pairwise fun a b => (lnF b).lab ≠ noB → (lnF a).lab ≠ (lnF b).lab
  | [], k, h => by
    rw [lst_nil]
    split <;> simp
  | p :: l, k, h => by
    obtain ⟨h1, h2, h3⟩ := h
    have hle := chn_le h3
    have hz := pcZ'_pos p
    have ih := lst_pair (T := T) he h3
    rw [lst_cons]
    have hp : (pcT T p :: lstL T e l).Pairwise fun a b => (lnF b).lab ≠ noB → (lnF a).lab ≠ (lnF b).lab := by
      refine List.pairwise_cons.2 ⟨fun x hx hn => ?_, ih⟩
      rw [ln_pc h2, pcLn_lab]
      exact fun hc => hn hc.symm
    split
    · refine List.pairwise_cons.2 ⟨fun x hx hn => ?_, hp⟩
      rw [h1, ln_lab (by omega)]
      rcases List.mem_cons.1 hx with rfl | hx
      · rw [ln_pc h2, pcLn_lab] at hn; exact absurd rfl hn
      · rcases lst_mem he h3 x hx with ⟨v, a1, a2, rfl⟩ | ⟨q, _, a1, rfl⟩
        · rw [ln_lab (by omega)]
          intro hc
          have := nmS_inj (by omega) (by omega) hc
          omega
        · rw [ln_pc a1, pcLn_lab] at hn; exact absurd rfl hn
    · exact hp
theorem szS_app (a b : List Ln) : szS (a ++ b) = szS a + szS b := by
  induction a with
  | nil => simp [szS]
  | cons x a ih => rw [List.cons_append, szS, szS, ih]; omega
theorem lst_sz {T : Int → Prop} {e : Nat} (he : e ≤ 60000) : ∀ {l : List Pc} {k : Nat}, chn e k l → (k : Int) + szS ((lstL T e l).map lnF) = e
  | [], k, h => by
    have h : k = e := h
    rw [lst_nil]
    split
    · rw [List.map_singleton, ln_lab (by omega)]
      show (k : Int) + (0 + 0) = e
      omega
    · show (k : Int) + 0 = e
      omega
  | p :: l, k, h => by
    obtain ⟨h1, h2, h3⟩ := h
    have hle := chn_le h3
    have ih := lst_sz (T := T) he h3
    have hp := pcLn_sz T p
    rw [lst_cons, List.map_append, szS_app, List.map_cons, szS, ln_pc h2]
    have h0 : szS ((if T p.a then [labW p.a] else []).map lnF) = 0 := by
      split
      · rw [List.map_singleton, h1, ln_lab (by omega)]; rfl
      · rfl
    omega
/-- a name's place -/
theorem lst_plc {T : Int → Prop} {e : Nat} (he : e ≤ 60000) {m : Nat} (hT : T (m : Int)) : ∀ {l : List Pc} {k : Nat}, chn e k l → k ≤ m → ((m : Int) = e ∨ ∃ p ∈ l, p.a = (m : Int)) → plcF (nmS (m : Int)) k ((lstL T e l).map lnF) = m
  | [], k, h, hk, hm => by
    have h : k = e := h
    have hme : (m : Int) = e := by
      rcases hm with hm | ⟨p, hp, _⟩
      · exact hm
      · exact absurd hp (by simp)
    obtain rfl : m = e := by omega
    subst h
    rw [lst_nil, if_pos hT, List.map_singleton, ln_lab (by omega), plcF, if_pos rfl]
  | p :: l, k, h, hk, hm => by
    obtain ⟨h1, h2, h3⟩ := h
    have hle := chn_le h3
    have hz := pcZ'_pos p
    have hp := pcLn_sz T p
    rw [lst_cons, List.map_append, List.map_cons, ln_pc h2]
    by_cases hmk : m = k
    · subst hmk
      have hTa : T p.a := by rw [h1]; exact hT
      rw [if_pos hTa, h1, List.map_singleton, ln_lab (by omega), List.singleton_append, plcF, if_pos rfl]
    · have hme : m ≤ e := by
        rcases hm with hm | ⟨q, hq, hqa⟩
        · omega
        · have key : ∀ {l : List Pc} {k : Nat}, chn e k l → ∀ q ∈ l, q.a ≤ (e : Int) := by
            intro l
            induction l with
            | nil => intro k _ q hq; exact absurd hq (by simp)
            | cons r l ih =>
              intro k hh q hq
              have := chn_le hh.2.2
              rcases List.mem_cons.1 hq with rfl | hq
              · rw [hh.1]; omega
              · exact ih hh.2.2 q hq
          have := key (l := p :: l) ⟨h1, h2, h3⟩ q hq
          omega
      have hno : nmS (m : Int) ≠ noB := by
        have := (nmS_ltr (n := m) (by omega)).ge
        intro hc; rw [hc] at this; exact absurd this (by decide)
      have hin : (m : Int) = e ∨ ∃ q ∈ l, q.a = (m : Int) := by
        rcases hm with hm | ⟨q, hq, hqa⟩
        · exact .inl hm
        · rcases List.mem_cons.1 hq with rfl | hq
          · omega
          · exact .inr ⟨q, hq, hqa⟩
      have hkm : k + pcZ' p ≤ m := by
        rcases hin with hm | ⟨q, hq, hqa⟩
        · omega
        · have key : ∀ {l : List Pc} {k : Nat}, chn e k l → ∀ q ∈ l, (k : Int) ≤ q.a := by
            intro l
            induction l with
            | nil => intro k _ q hq; exact absurd hq (by simp)
            | cons r l ih =>
              intro k hh q hq
              rcases List.mem_cons.1 hq with rfl | hq
              · rw [hh.1]; omega
              · have := ih hh.2.2 q hq; omega
          have := key h3 q hq
          omega
      have ih := lst_plc he hT h3 hkm hin
      have hpl : plcF (nmS (m : Int)) k (pcLn T p :: (lstL T e l).map lnF) = m := by
        rw [plcF, if_neg (by rw [pcLn_lab]; exact fun hc => hno hc.symm), hp, show (k : Int) + ((pcZ' p : Nat) : Int) = ((k + pcZ' p : Nat) : Int) by omega]
        exact ih
      split
      · rw [List.map_singleton, h1, ln_lab (by omega), List.singleton_append, plcF, if_neg (fun hc => hmk (nmS_inj (by omega) (by omega) hc).symm)]
        show plcF _ ((k : Int) + 0) _ = _
        rw [Int.add_zero]
        exact hpl
      · exact hpl
/-- the bytes of all lines -/
theorem lst_bytes {T : Int → Prop} {e : Nat} (he : e ≤ 60000) (all : List Ln) : ∀ {l : List Pc} {k : Nat}, chn e k l → (∀ p ∈ l, goesP p → T p.n → plcF (nmS p.n) 0 all = p.n) → allB all ((lstL T e l).map lnF) = l.flatMap pcB'
  | [], k, h, hn => by
    have h : k = e := h
    rw [lst_nil]
    split
    · rw [List.map_singleton, ln_lab (by omega)]; rfl
    · rfl
  | p :: l, k, h, hn => by
    obtain ⟨h1, h2, h3⟩ := h
    have hle := chn_le h3
    have ih := lst_bytes he all h3 fun q hq => hn q (by simp [hq])
    rw [lst_cons, List.map_append, List.map_cons, ln_pc h2, List.flatMap_cons, ← ih]
    have e0 : allB all ((if T p.a then [labW p.a] else []).map lnF) = [] := by
      split
      · rw [List.map_singleton, h1, ln_lab (by omega)]; rfl
      · rfl
    have e1 : ∀ a b : List Ln, allB all (a ++ b) = allB all a ++ allB all b := fun a b => by unfold allB; rw [List.flatMap_append]
    have e2 : ∀ (a : Ln) (b : List Ln), allB all (a :: b) = lnB all a a.nums.length ++ allB all b := fun a b => by unfold allB; rw [List.flatMap_cons]
    rw [e1, e0, List.nil_append, e2]
    congr 1
    unfold pcLn pcB'
    by_cases hi : p.i = true
    · rw [if_pos hi, if_pos hi]
      by_cases hg : goesP p ∧ T p.n
      · rw [if_pos hg]
        obtain ⟨hm, q1, q2, q3⟩ := may_nat (h2.ins hi)
        have hL := nmS_ltr (n := p.n.toNat) (by have := hm.2.2.1; omega)
        rw [q3] at hL
        have hno : nmS p.n ≠ noB := fun hc => by have := hL.ge; rw [hc] at this; exact absurd this (by decide)
        rw [(lnB_nam all ⟨noB, [p.c, p.x, 0], [1, 1, 2], nmS p.n, false⟩ (ns := [p.c, p.x]) (ss := [1, 1]) rfl hno rfl rfl).1, hn p (by simp) hg.1 hg.2]
        rfl
      · rw [if_neg hg, lnB_none all _ rfl rfl]
        rfl
    · rw [if_neg hi, if_neg hi, lnB_none all _ rfl rfl]
      rfl
/-- a listing's program -/
theorem lst_asm (s : ByteArray) (hs : s.size ≤ 1024) : asmF (lstT (tgt (cutF s 0) s.size) s.size (cutF s 0)) = (s.data.toList, 0, 0) := by
  have hc := cut_chn s s.size 0 (by omega)
  have hb := cut_bytes s s.size 0 (by omega)
  rw [List.drop_zero] at hb
  rw [← hb]
  generalize cutF s 0 = l at *
  generalize s.size = e at *
  have he : e ≤ 60000 := by omega
  have hnil : lnF [] = nilL := if_pos (.inl rfl)
  have hpl : ∀ p ∈ l, goesP p → tgt l e p.n → plcF (nmS p.n) 0 ((lstL (tgt l e) e l).map lnF) = p.n := fun p hp hg ht => by
    have hok : ∀ {l : List Pc} {k : Nat}, chn e k l → ∀ q ∈ l, PcOk q := by
      intro l
      induction l with
      | nil => intro k _ q hq; exact absurd hq (by simp)
      | cons r l ih =>
        intro k hh q hq
        rcases List.mem_cons.1 hq with rfl | hq
        · exact hh.2.1
        · exact ih hh.2.2 q hq
    obtain ⟨hm, q1, q2, q3⟩ := may_nat ((hok hc p hp).ins hg.1)
    have hb := ht.1
    rw [← q3] at hb ht ⊢
    exact lst_plc he ht hc (Nat.zero_le _) hb
  have hsz := lst_sz (T := tgt l e) he hc
  have hpr := lst_pair (T := tgt l e) he hc
  have hbd := lst_bad (T := tgt l e) he hc
  have key := asm_good (s := lstT (tgt l e) e l) (r := lstL (tgt l e) e l ++ [[]]) (spl_lines _ (lst_no10 he hc)) ?_ ?_ ?_ ?_
  · rw [key]
    have e1 : ∀ all a b : List Ln, allB all (a ++ b) = allB all a ++ allB all b := fun all a b => by unfold allB; rw [List.flatMap_append]
    have e3 : (lstL (tgt l e) e l ++ [[]]).map lnF = (lstL (tgt l e) e l).map lnF ++ [nilL] := by rw [List.map_append, List.map_singleton, hnil]
    have hpl2 : ∀ p ∈ l, goesP p → tgt l e p.n → plcF (nmS p.n) 0 ((lstL (tgt l e) e l).map lnF ++ [nilL]) = p.n := fun p hp hg ht => by
      have h1 := hpl p hp hg ht
      have key : ∀ (w : ByteArray) (a b : List Ln) (n : Int), 0 ≤ plcF w n a → plcF w n (a ++ b) = plcF w n a := by
        intro w a b
        induction a with
        | nil => intro n h; exact absurd h (by show ¬ (0 : Int) ≤ -1; decide)
        | cons y a ih =>
          intro n h
          rw [List.cons_append, plcF, plcF]
          rw [plcF] at h
          split
          · rfl
          · rename_i hh; rw [if_neg hh] at h; exact ih _ h
      have hok : 0 ≤ p.n := by
        have hb := ht.1
        have := hpl p hp hg ht
        have ge := plc_bd (nmS p.n) ((lstL (tgt l e) e l).map lnF) 0 (Int.le_refl 0) (fun l hl => by obtain ⟨q, _, rfl⟩ := List.mem_map.1 hl; exact ok_ln q)
        rcases hb with hb | ⟨q, hq, hqa⟩
        · omega
        · have hge : ∀ {l : List Pc} {k : Nat}, chn e k l → ∀ q ∈ l, 0 ≤ q.a := by
            intro l
            induction l with
            | nil => intro k _ q hq; exact absurd hq (by simp)
            | cons r l ih =>
              intro k hh q hq
              rcases List.mem_cons.1 hq with rfl | hq
              · rw [hh.1]; omega
              · exact ih hh.2.2 q hq
          have := hge hc q hq
          omega
      rw [key _ _ _ _ (by rw [h1]; exact hok), h1]
    rw [e3]
    refine Prod.ext ?_ rfl
    show allB _ (_ ++ _) = _
    rw [e1, lst_bytes he _ hc hpl2]
    show _ ++ [] = _
    rw [List.append_nil]
  · intro x hx
    rcases List.mem_append.1 hx with hx | hx
    · exact hbd x hx
    · rw [List.mem_singleton.1 hx, hnil]; rfl
  · intro pre x post hpre hx y hy
    have hpr2 : (lstL (tgt l e) e l ++ [[]]).Pairwise fun a b => (lnF b).lab ≠ noB → (lnF a).lab ≠ (lnF b).lab := by
      refine List.pairwise_append.2 ⟨hpr, by simp, fun a ha b hb hn => ?_⟩
      rw [List.mem_singleton.1 hb, hnil] at hn
      exact absurd rfl hn
    rw [hpre] at hpr2
    exact (List.pairwise_append.1 hpr2).2.2 y hy x (by simp) hx
  · rw [List.map_append, szS_app, List.map_singleton, hnil]
    show _ + (0 + 0) ≤ 1024
    omega
  · intro x hx hn
    rw [List.map_append, List.map_singleton, hnil]
    have key : ∀ (w : ByteArray) (a b : List Ln) (n : Int), 0 ≤ plcF w n a → plcF w n (a ++ b) = plcF w n a := by
      intro w a b
      induction a with
      | nil => intro n h; exact absurd h (by show ¬ (0 : Int) ≤ -1; decide)
      | cons y a ih =>
        intro n h
        rw [List.cons_append, plcF, plcF]
        rw [plcF] at h
        split
        · rfl
        · rename_i hh; rw [if_neg hh] at h; exact ih _ h
    rcases List.mem_append.1 hx with hx | hx
    · rcases lst_mem he hc x hx with ⟨v, a1, a2, rfl⟩ | ⟨p, hp, a1, rfl⟩
      · rw [ln_lab (by omega)] at hn; exact absurd rfl hn
      · rw [ln_pc a1] at hn ⊢
        unfold pcLn at hn ⊢
        by_cases hi : p.i = true
        · rw [if_pos hi] at hn ⊢
          by_cases hg : goesP p ∧ tgt l e p.n
          · rw [if_pos hg]
            have h1 := hpl p hp hg.1 hg.2
            have h0 : 0 ≤ p.n := by have := (a1.ins hi).2.2.2.2.1; exact this
            show 0 ≤ plcF (nmS p.n) 0 _
            rw [key _ _ _ _ (by rw [h1]; exact h0), h1]
            exact h0
          · rw [if_neg hg] at hn; exact absurd rfl hn
        · rw [if_neg hi] at hn; exact absurd rfl hn
    · rw [List.mem_singleton.1 hx, hnil] at hn; exact absurd rfl hn
end Go.Proofs
