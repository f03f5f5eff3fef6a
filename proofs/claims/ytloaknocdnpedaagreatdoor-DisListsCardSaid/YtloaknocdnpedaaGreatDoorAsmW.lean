/- Lines of a program's text that are right: plain. -/
import Derived.Test.YtloaknocdnpedaaGreatDoorAsmQ
set_option linter.all false
namespace Go.Proofs
open Go.Eng
open Classical
set_option linter.unusedVariables false
set_option maxRecDepth 100000
set_option maxHeartbeats 4000000
/-! all lines are right -/
theorem plc_app (w : ByteArray) : ∀ (a b : List Ln) (n : Int), (∀ l ∈ a, l.lab ≠ w) → plcF w n (a ++ b) = plcF w (n + szS a) b
  | [], b, n, h => by simp [szS]
  | l :: a, b, n, h => by
    rw [List.cons_append, plcF, if_neg (h l (by simp)), plc_app w a b _ (fun l hl => h l (by simp [hl])), szS, show n + szF l + szS a = n + (szF l + szS a) by omega]
theorem plc_no {w : ByteArray} : ∀ {a : List Ln} {n : Int}, (∀ l ∈ a, l.lab ≠ w) → plcF w n a = -1
  | [], n, h => rfl
  | l :: a, n, h => by rw [plcF, if_neg (h l (by simp))]; exact plc_no fun l hl => h l (by simp [hl])
theorem nms_good (all : List Ln) : ∀ (r : List Ln) (k : Nat), (∀ l ∈ r, l.nam ≠ noB → 0 ≤ plcF l.nam 0 all) → nmsA all k r = (all, 0, 0)
  | [], k, h => rfl
  | l :: r, k, h => by
    rw [nmsA, if_neg (fun hc => by have := h l (by simp) hc.1; omega)]
    exact nms_good all r (k + 1) fun l hl => h l (by simp [hl])
theorem lns_good : ∀ (r : List (List UInt8)) (acc : List Ln) (n : Int), (∀ l ∈ r, (lnF l).bad = false) → (∀ pre x post, r = pre ++ x :: post → (lnF x).lab ≠ noB → plcF (lnF x).lab 0 (acc ++ pre.map lnF) < 0) →
    n + szS (r.map lnF) ≤ 1024 → (∀ l ∈ acc ++ r.map lnF, l.nam ≠ noB → 0 ≤ plcF l.nam 0 (acc ++ r.map lnF)) → lnsA acc n r = (acc ++ r.map lnF, 0, 0)
  | [], acc, n, h1, h2, h3, h4 => by
    rw [lnsA, List.map_nil, List.append_nil] at *
    exact nms_good acc acc 0 h4
  | x :: r, acc, n, h1, h2, h3, h4 => by
    have hs : ∀ r : List (List UInt8), 0 ≤ szS (r.map lnF) := fun r => by
      induction r with
      | nil => exact Int.le_refl 0
      | cons y r ih => have := sz_bd (ok_ln y); rw [List.map_cons, szS]; omega
    have hr := hs r
    have hb := h1 x (by simp)
    have hp := h2 [] x r rfl
    rw [List.map_nil, List.append_nil] at hp
    rw [List.map_cons, szS] at h3
    have e : acc ++ (x :: r).map lnF = (acc ++ [lnF x]) ++ r.map lnF := by simp
    rw [lnsA, if_neg (by rw [hb]; decide), if_neg (fun hc => by have := hp hc.1; omega), if_neg (by omega), e]
    rw [e] at h4
    refine lns_good r (acc ++ [lnF x]) (n + szF (lnF x)) (fun l hl => h1 l (by simp [hl])) (fun pre y post he hy => ?_) (by omega) h4
    have := h2 (x :: pre) y post (by rw [he]; rfl) hy
    rw [List.map_cons] at this
    simpa using this
/-- a text of lines that are right -/
theorem asm_good {s : List UInt8} {r : List (List UInt8)} (hs : splL 10 s = r) (h1 : ∀ l ∈ r, (lnF l).bad = false) (h2 : ∀ pre x post, r = pre ++ x :: post → (lnF x).lab ≠ noB → ∀ l ∈ pre, (lnF l).lab ≠ (lnF x).lab)
    (h3 : szS (r.map lnF) ≤ 1024) (h4 : ∀ l ∈ r, (lnF l).nam ≠ noB → 0 ≤ plcF (lnF l).nam 0 (r.map lnF)) : asmF s = (allB (r.map lnF) (r.map lnF), 0, 0) := by
  have e : linesF s = (r.map lnF, 0, 0) := by
    unfold linesF
    rw [hs]
    refine (lns_good r [] 0 h1 (fun pre x post he hx => ?_) (by omega) (fun l hl hn => ?_)).trans (by rw [List.nil_append])
    · rw [List.nil_append, plc_no]
      · decide
      · intro l hl
        obtain ⟨q, hq, rfl⟩ := List.mem_map.1 hl
        exact h2 pre x post he hx q hq
    · rw [List.nil_append] at hl ⊢
      obtain ⟨q, hq, rfl⟩ := List.mem_map.1 hl
      exact h4 q hq hn
  unfold asmF
  rw [e, if_pos rfl]
/-- lines, each with its end -/
theorem spl_lines : ∀ (r : List (List UInt8)), (∀ l ∈ r, (10 : UInt8) ∉ l) → splL 10 (r.flatMap (· ++ [10])) = r ++ [[]]
  | [], h => rfl
  | x :: r, h => by
    have ih := spl_lines r fun l hl => h l (by simp [hl])
    have e : (x :: r).flatMap (· ++ [10]) = x ++ 10 :: r.flatMap (· ++ [10]) := by rw [List.flatMap_cons, List.append_assoc]; rfl
    rw [e]
    unfold splL at ih ⊢
    rw [spl_app (h x (by simp)), ih]
    rfl
/-- a line that is a label -/
theorem lab_line {w : ByteArray} (hw : Ltrs w) : lnF (w.data.toList ++ [58]) = ⟨w, [], [], noB, false⟩ := by
  have hl := size_list w
  have h1 := hw.ge
  have hm : ∀ x ∈ w.data.toList, 97 ≤ x.toNat ∧ x.toNat ≤ 122 := fun x hx => by
    obtain ⟨i, hi, e⟩ := List.getElem_of_mem hx
    have hi2 : i < w.size := by omega
    have := hw.all i hi2
    rw [← e, sAt_get hi2]
    exact this
  have h32 : (32 : UInt8) ∉ w.data.toList ++ [58] := fun h => by
    rcases List.mem_append.1 h with h | h
    · exact absurd (hm _ h).1 (by decide)
    · simp at h
  have hwd : wds (w.data.toList ++ [58]) = [bsL (w.data.toList ++ [58])] := by
    show (splL 32 _).map bsL = _
    unfold splL
    rw [spl_none h32]
    rfl
  have hsz : (bsL (w.data.toList ++ [58])).size = w.size + 1 := by rw [bsL_size, List.length_append, hl]; rfl
  have hex : (bsL (w.data.toList ++ [58])).extract 0 w.size = w := by
    refine str_ext ?_
    rw [ext_pre, bsL_list, ← hl, List.take_left]
  have hne : ¬ (w.data.toList ++ [58] = [] ∨ ((w.data.toList ++ [58]).headD 0).toNat = 35) := by
    rintro (h | h)
    · simp at h
    · cases hq : w.data.toList with
      | nil => rw [hq] at hl; simp at hl; omega
      | cons x r =>
        rw [hq] at h
        have := hm x (by rw [hq]; simp)
        change x.toNat = 35 at h
        omega
  have hlast : (sAt (bsL (w.data.toList ++ [58])) w.size).toNat = 58 := by
    show ((w.data.toList ++ [58]).getD w.size 0).toNat = 58
    rw [← hl]
    simp [List.getD]
  unfold lnF
  rw [if_neg hne, hwd]
  unfold wlnF
  show (if _ ∧ labP (bsL (w.data.toList ++ [58])) then (⟨(bsL (w.data.toList ++ [58])).extract 0 ((bsL (w.data.toList ++ [58])).size - 1), [], [], noB, false⟩ : Ln) else _) = _
  refine (if_pos ⟨rfl, by rw [hsz]; omega, by rw [hsz, Nat.add_sub_cancel]; exact hlast, by rw [hsz, Nat.add_sub_cancel, hex]; exact hw⟩).trans ?_
  rw [hsz, Nat.add_sub_cancel, hex]
/-! numbers and registers that were printed -/
abbrev decB (n : Nat) : ByteArray := bsL (Lib.decDigits n)
theorem dec_at {N : Nat} {i : Nat} (h : i < (decB N).size) : isDig (sAt (decB N) i) := by
  have h2 := (dec_props N).2.1
  rw [bsL_size] at h
  rw [← sAt_get (s := decB N) (k := i) (by rw [bsL_size]; exact h)]
  exact h2 _ (List.getElem_mem h)
theorem dec_not (N : Nat) : ¬ Ltrs (decB N) := fun h => by
  have h1 := h.ge
  have h2 := h.all 0 (by omega)
  have h3 := dec_at (N := N) (i := 0) (by omega)
  omega
theorem numA_dec {N : Nat} {m : Int} (h : (N : Int) ≤ m) (hN : N ≤ 99999) : numA (decB N) m = N := by
  obtain ⟨d1, d2, d3, d4⟩ := dec_props N
  have hl : (Lib.decDigits N).length ≤ 5 := dec_len 4 N (by omega)
  have hA : NumA (decB N) := by
    refine ⟨?_, by rw [bsL_size]; exact hl, fun h2 => ?_, fun i hi => dec_at hi⟩
    · rw [bsL_size]
      cases hq : Lib.decDigits N with
      | nil => exact absurd hq d3
      | cons x r => simp
    · have h1 : 1 ≤ N := by
        refine Classical.byContradiction fun hc => ?_
        rw [bsL_size, dec_low (by omega)] at h2
        simp at h2
      have := d4 h1
      show ((Lib.decDigits N).getD 0 0).toNat ≠ 48
      cases hq : Lib.decDigits N with
      | nil => exact absurd hq d3
      | cons x r =>
        rw [hq] at this
        exact this
  unfold numA
  have e : numV (decB N).data.toList = N := d1
  rw [e, if_pos ⟨hA, h⟩]
abbrev regB (n : Nat) : ByteArray := bsL (114 :: Lib.decDigits n)
theorem regA_dec {N : Nat} (h : N ≤ 7) : regA (regB N) = N := by
  have e1 : Lib.decDigits N = [u8of (48 + (N : Int))] := dec_low (by omega)
  have e2 : (regB N).extract 1 (regB N).size = decB N := by
    refine str_ext ?_
    rw [extract_list]
    show ((114 :: Lib.decDigits N).take _).drop 1 = Lib.decDigits N
    rw [bsL_size, List.take_length]
    rfl
  unfold regA
  rw [if_pos ⟨by rw [bsL_size, e1]; rfl, rfl⟩, e2]
  exact numA_dec (by omega) (by omega)
/-! an instruction's line -/
def insWs (c x n : Nat) (last : ByteArray) : List ByteArray :=
  [codeN c] ++ (if c ≠ 0 ∧ c ≠ 15 ∧ c ≠ 11 then [regB x] else []) ++ (if 2 ≤ c ∧ c ≤ 10 then [regB n] else if c ≠ 0 ∧ c ≠ 15 then [last] else [])
def joinW : List ByteArray → List UInt8
  | [] => []
  | [w] => w.data.toList
  | w :: r => w.data.toList ++ 32 :: joinW r
abbrev no32 (w : ByteArray) : Prop := (32 : UInt8) ∉ w.data.toList
theorem joinW_c (w v : ByteArray) (r : List ByteArray) : joinW (w :: v :: r) = w.data.toList ++ 32 :: joinW (v :: r) := rfl
theorem wds_join : ∀ (r : List ByteArray), r ≠ [] → (∀ w ∈ r, no32 w) → wds (joinW r) = r
  | [], h, _ => absurd rfl h
  | [w], _, h => by
    show (splL 32 _).map bsL = _
    unfold splL
    rw [show joinW [w] = w.data.toList from rfl, spl_none (h w (by simp))]
    rfl
  | w :: v :: r, _, h => by
    have ih := wds_join (v :: r) (by simp) fun w hw => h w (by simp [hw])
    change (splL 32 _).map bsL = _ at ih
    show (splL 32 _).map bsL = _
    rw [joinW_c]
    unfold splL at ih ⊢
    rw [spl_app (h w (by simp)), List.map_cons, ih]
theorem code_w : ∀ c : Fin 16, (no32 (codeN c.val) ∧ (10 : UInt8) ∉ (codeN c.val).data.toList) ∧ ((codeN c.val).data.toList ≠ [] ∧ ((codeN c.val).data.toList.headD 0).toNat ≠ 35) ∧ (sAt (codeN c.val) ((codeN c.val).size - 1)).toNat ≠ 58 ∧ codeN c.val ≠ byteB ∧ codeN c.val ≠ twoB := by decide +kernel
theorem head_join (w : ByteArray) (r : List ByteArray) (h1 : w.data.toList ≠ []) : (joinW (w :: r)).headD 0 = w.data.toList.headD 0 ∧ joinW (w :: r) ≠ [] := by
  cases hq : w.data.toList with
  | nil => exact absurd hq h1
  | cons x l =>
    cases r with
    | nil => show (w.data.toList).headD 0 = _ ∧ w.data.toList ≠ _; rw [hq]; exact ⟨rfl, by simp⟩
    | cons v r => rw [joinW_c, hq]; exact ⟨rfl, by simp⟩
theorem reg_no (N : Nat) : no32 (regB N) ∧ (10 : UInt8) ∉ (regB N).data.toList := by
  have h := dec_no N
  refine ⟨fun hc => ?_, fun hc => ?_⟩
  · rcases List.mem_cons.1 (show (32 : UInt8) ∈ 114 :: Lib.decDigits N from hc) with h1 | h1
    · exact absurd h1 (by decide)
    · exact h.1 h1
  · rcases List.mem_cons.1 (show (10 : UInt8) ∈ 114 :: Lib.decDigits N from hc) with h1 | h1
    · exact absurd h1 (by decide)
    · exact h.2 h1
abbrev mayN (c x n : Nat) : Prop := c ≤ 15 ∧ x ≤ 7 ∧ n ≤ 65535 ∧ (2 ≤ c ∧ c ≤ 10 → n ≤ 7) ∧ (c = 0 ∨ c = 15 → n = 0) ∧ (c = 0 ∨ c = 15 ∨ c = 11 → x = 0)
theorem insWs_no {c x n : Nat} {last : ByteArray} (hc : c ≤ 15) (hl : no32 last) : ∀ w ∈ insWs c x n last, no32 w := by
  intro w hw
  unfold insWs at hw
  rcases List.mem_append.1 hw with hw | hw
  · rcases List.mem_append.1 hw with hw | hw
    · rw [List.mem_singleton.1 hw]; exact (code_w ⟨c, by omega⟩).1.1
    · split at hw
      · rw [List.mem_singleton.1 hw]; exact (reg_no x).1
      · exact absurd hw (by simp)
  · split at hw
    · rw [List.mem_singleton.1 hw]; exact (reg_no n).1
    · split at hw
      · rw [List.mem_singleton.1 hw]; exact hl
      · exact absurd hw (by simp)
theorem join_no10 : ∀ (r : List ByteArray), (∀ w ∈ r, (10 : UInt8) ∉ w.data.toList) → (10 : UInt8) ∉ joinW r
  | [], h => by simp [joinW]
  | [w], h => h w (by simp)
  | w :: v :: r, h => by
    rw [joinW_c]
    intro hc
    rcases List.mem_append.1 hc with hc | hc
    · exact h w (by simp) hc
    · rcases List.mem_cons.1 hc with hc | hc
      · exact absurd hc (by decide)
      · exact join_no10 (v :: r) (fun w hw => h w (by simp [hw])) hc
theorem insWs_no10 {c x n : Nat} {last : ByteArray} (hc : c ≤ 15) (hl : (10 : UInt8) ∉ last.data.toList) : (10 : UInt8) ∉ joinW (insWs c x n last) := by
  refine join_no10 _ fun w hw => ?_
  unfold insWs at hw
  rcases List.mem_append.1 hw with hw | hw
  · rcases List.mem_append.1 hw with hw | hw
    · rw [List.mem_singleton.1 hw]; exact (code_w ⟨c, by omega⟩).1.2
    · split at hw
      · rw [List.mem_singleton.1 hw]; exact (reg_no x).2
      · exact absurd hw (by simp)
  · split at hw
    · rw [List.mem_singleton.1 hw]; exact (reg_no n).2
    · split at hw
      · rw [List.mem_singleton.1 hw]; exact hl
      · exact absurd hw (by simp)
theorem insWs_cons (c x n : Nat) (last : ByteArray) : ∃ r, insWs c x n last = codeN c :: r := ⟨_, by unfold insWs; rw [List.append_assoc]; rfl⟩
/-- the words of a line with a code ahead -/
theorem ln_code {c x n : Nat} {last : ByteArray} (hc : c ≤ 15) (hl : no32 last) : lnF (joinW (insWs c x n last)) = insF (c : Int) (insWs c x n last) := by
  obtain ⟨⟨a1, _⟩, ⟨a2, a3⟩, a4, a5, a6⟩ := code_w ⟨c, by omega⟩
  obtain ⟨r, hr⟩ := insWs_cons c x n last
  have hw := wds_join (insWs c x n last) (by rw [hr]; simp) (insWs_no hc hl)
  have hh := head_join (codeN c) r a2
  unfold lnF
  rw [if_neg (by rw [hr]; rintro (h | h); exact hh.2 h; rw [hh.1] at h; exact a3 h), hw]
  have h0 : wat (insWs c x n last) 0 = codeN c := by rw [hr]; rfl
  have hi : codeI (codeN c) = (c : Int) := code_at (by omega)
  unfold wlnF
  rw [h0, if_neg (fun h => a4 h.2.2.1), if_neg (fun h => a5 h.1), if_neg (fun h => a6 h.1), hi, if_pos (by omega)]
theorem valF_dec {l : Ln} {N : Nat} (h : N ≤ 65535) : valF l (decB N) = ⟨l.lab, l.nums ++ [(N : Int)], l.szs ++ [2], l.nam, l.bad⟩ := by
  unfold valF
  rw [if_neg (dec_not N), numA_dec (by omega) (by omega), decide_eq_false (by omega), Bool.or_false]
theorem ln_ins {c x n : Nat} (h : mayN c x n) : lnF (joinW (insWs c x n (decB n))) = ⟨noB, [(c : Int), x, n], [1, 1, 2], noB, false⟩ := by
  obtain ⟨h1, h2, h3, h4, h5, h6⟩ := h
  rw [ln_code h1 (dec_no n).1]
  have rx := regA_dec h2
  by_cases c0 : c = 0 ∨ c = 15
  · obtain rfl := h5 c0
    obtain rfl : x = 0 := h6 (by omega)
    have e : insWs c 0 0 (decB 0) = [codeN c] := by
      unfold insWs
      rw [if_neg (by omega), if_neg (by omega), if_neg (by omega)]
      rfl
    have ez : zeroB = decB 0 := by
      show zeroB = bsL (Lib.decDigits 0)
      rw [dec_low (by decide)]
      rfl
    unfold insF
    rw [e, if_pos (by omega), if_pos (show [codeN c].length = 1 from rfl), ez, valF_dec (by decide)]
    rfl
  · by_cases c1 : c = 11
    · subst c1
      obtain rfl : x = 0 := h6 (by omega)
      have e : insWs 11 0 n (decB n) = [codeN 11, decB n] := rfl
      unfold insF
      rw [e, if_neg (by decide), if_pos (by decide), if_pos (show [codeN 11, decB n].length = 2 from rfl)]
      show valF _ (decB n) = _
      rw [valF_dec h3]
      rfl
    · by_cases c2 : 2 ≤ c ∧ c ≤ 10
      · have rn := regA_dec (h4 c2)
        have e : insWs c x n (decB n) = [codeN c, regB x, regB n] := by
          unfold insWs
          rw [if_pos (by omega), if_pos (by omega)]
          rfl
        unfold insF
        rw [e, if_neg (by omega), if_neg (by omega), if_pos (show [codeN c, regB x, regB n].length = 3 from rfl), if_pos (by omega)]
        show Ln.mk noB [(c : Int), regA (regB x), regA (regB n)] [1, 1, 2] noB (decide (regA (regB x) < 0) || decide (regA (regB n) < 0)) = _
        rw [rx, rn, decide_eq_false (by omega), decide_eq_false (by omega)]
        rfl
      · have e : insWs c x n (decB n) = [codeN c, regB x, decB n] := by
          unfold insWs
          rw [if_pos (by omega), if_neg (by omega), if_pos (by omega)]
          rfl
        unfold insF
        rw [e, if_neg (by omega), if_neg (by omega), if_pos (show [codeN c, regB x, decB n].length = 3 from rfl), if_neg (by omega), if_neg (fun h => dec_not n h.2)]
        show valF ⟨noB, [(c : Int), regA (regB x)], [1, 1], noB, decide (regA (regB x) < 0)⟩ (decB n) = _
        rw [valF_dec h3, rx, decide_eq_false (by omega)]
        rfl
/-- an instruction's four bytes -/
abbrev ilF (c x n : Nat) : Ln := ⟨noB, [(c : Int), x, n], [1, 1, 2], noB, false⟩
theorem il_z (c x n : Nat) : lnZb (ilF c x n) = [u8of c, u8of x] ++ p2 n := rfl
theorem lnB_il (all : List Ln) (c x n : Nat) : lnB all (ilF c x n) (ilF c x n).nums.length = [u8of c, u8of x] ++ p2 n := by
  rw [lnB_none all (ilF c x n) rfl rfl, il_z]
end Go.Proofs
