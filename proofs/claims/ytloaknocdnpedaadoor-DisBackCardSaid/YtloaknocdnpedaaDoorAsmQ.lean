/- The assembler and the document's one: plain. -/
import Derived.Test.YtloaknocdnpedaaDoorAsmP
set_option linter.all false
namespace Go.Proofs
open Go.Eng
open Classical
set_option linter.unusedVariables false
set_option maxRecDepth 100000
set_option maxHeartbeats 4000000
/-- a name stands last, in two bytes -/
def NamL (l : Ln) : Prop := ∃ ns ss, l.nums = ns ++ [0] ∧ l.szs = ss ++ [2]
theorem val_nam {l : Ln} {w : ByteArray} (hn : l.nam = noB) : (valF l w).nam ≠ noB → NamL (valF l w) := by
  unfold valF
  split
  · intro _
    exact ⟨l.nums, l.szs, rfl, rfl⟩
  · intro h
    exact absurd hn h
theorem nam_last (l : List UInt8) : (lnF l).nam ≠ noB → NamL (lnF l) := by
  unfold lnF
  split
  · exact fun h => absurd rfl h
  · unfold wlnF
    split
    · exact fun h => absurd rfl h
    · split
      · exact fun h => absurd rfl h
      · split
        · exact val_nam rfl
        · split
          · unfold insF
            split
            · split
              · exact val_nam rfl
              · exact fun h => absurd rfl h
            · split
              · split
                · exact val_nam rfl
                · exact fun h => absurd rfl h
              · split
                · split
                  · exact fun h => absurd rfl h
                  · split
                    · exact fun h => absurd rfl h
                    · exact val_nam rfl
                · exact fun h => absurd rfl h
          · exact fun h => absurd rfl h
structure LnG (l : Ln) : Prop where
  ok : LnOk l
  nm : l.nam ≠ noB → NamL l
theorem lnG (l : List UInt8) : LnG (lnF l) := ⟨ok_ln l, nam_last l⟩
theorem lnZ_snoc : ∀ (ns ss : List Int) (n s : Int), ns.length = ss.length → lnZ (ns ++ [n]) (ss ++ [s]) = lnZ ns ss ++ (p2 n).take s.toNat
  | [], [], n, s, _ => by simp [lnZ]
  | a :: ns, b :: ss, n, s, h => by
    show (p2 a).take b.toNat ++ lnZ (ns ++ [n]) (ss ++ [s]) = ((p2 a).take b.toNat ++ lnZ ns ss) ++ _
    rw [lnZ_snoc ns ss n s (by simpa using h), List.append_assoc]
theorem lnB_Z (all : List Ln) (l : Ln) (hl : l.nums.length = l.szs.length) : ∀ m, m ≤ l.nums.length → (∀ k, k < m → numAt all l k = l.nums.getD k 0) → lnB all l m = lnZ (l.nums.take m) (l.szs.take m)
  | 0, _, _ => by simp [lnB, lnZ]
  | m + 1, hm, h => by
    rw [lnB, lnB_Z all l hl m (by omega) (fun k hk => h k (by omega)), h m (by omega)]
    have e1 : l.nums.take (m + 1) = l.nums.take m ++ [l.nums.getD m 0] := by
      rw [List.take_add_one, List.getElem?_eq_getElem (by omega)]
      simp [List.getD, show m < l.nums.length by omega]
    have e2 : l.szs.take (m + 1) = l.szs.take m ++ [l.szs.getD m 0] := by
      rw [List.take_add_one, List.getElem?_eq_getElem (by omega)]
      simp [List.getD, show m < l.szs.length by omega]
    rw [e1, e2, lnZ_snoc _ _ _ _ (by simp; omega)]
theorem lnB_none (all : List Ln) (l : Ln) (hl : l.nums.length = l.szs.length) (hn : l.nam = noB) : lnB all l l.nums.length = lnZb l := by
  rw [lnB_Z all l hl _ (Nat.le_refl _) (fun k hk => if_neg (fun h => h.1 hn)), List.take_length, hl, List.take_length]
theorem lnB_nam (all : List Ln) (l : Ln) {ns ss : List Int} (hl : l.nums.length = l.szs.length) (hn : l.nam ≠ noB) (e1 : l.nums = ns ++ [0]) (e2 : l.szs = ss ++ [2]) :
    lnB all l l.nums.length = lnZ ns ss ++ p2 (plcF l.nam 0 all) ∧ lnZb l = lnZ ns ss ++ p2 0 ∧ ns.length = ss.length := by
  have h1 : ns.length = ss.length := by rw [e1, e2, List.length_append, List.length_append] at hl; simpa using hl
  have hlen : l.nums.length = ns.length + 1 := by rw [e1]; simp
  refine ⟨?_, ?_, h1⟩
  · rw [hlen, lnB, lnB_Z all l hl ns.length (by omega) (fun k hk => if_neg (fun h => by omega))]
    have e3 : numAt all l ns.length = plcF l.nam 0 all := if_pos ⟨hn, by omega⟩
    have e4 : l.szs.getD ns.length 0 = 2 := by rw [e2, h1]; simp [List.getD]
    rw [e3, e4, e1, e2, List.take_left, h1, List.take_left]
    rfl
  · unfold lnZb
    rw [e1, e2, lnZ_snoc _ _ _ _ h1]
    rfl
/-! labels and uses of lines -/
def szS : List Ln → Int
  | [] => 0
  | l :: r => szF l + szS r
noncomputable def labF : Int → List Ln → List (ByteArray × Int)
  | _, [] => []
  | n, l :: r => if l.lab = noB then labF (n + szF l) r else (l.lab, n) :: labF (n + szF l) r
noncomputable def usF : Int → Int → List Ln → List (ByteArray × Int × Int)
  | _, _, [] => []
  | n, k, l :: r => if l.nam = noB then usF (n + szF l) (k + 1) r else (l.nam, n + szF l - 2, k + 1) :: usF (n + szF l) (k + 1) r
theorem szS_snoc (l : Ln) : ∀ acc, szS (acc ++ [l]) = szS acc + szF l
  | [] => by simp [szS]
  | x :: acc => by rw [List.cons_append, szS, szS_snoc l acc, szS]; omega
theorem labF_snoc (l : Ln) : ∀ acc n, labF n (acc ++ [l]) = labF n acc ++ (if l.lab = noB then [] else [(l.lab, n + szS acc)])
  | [], n => by simp [labF, szS]
  | x :: acc, n => by
    rw [List.cons_append, labF, labF_snoc l acc, labF, szS, show n + szF x + szS acc = n + (szF x + szS acc) by omega]
    split <;> rfl
theorem usF_snoc (l : Ln) : ∀ acc n k, usF n k (acc ++ [l]) = usF n k acc ++ (if l.nam = noB then [] else [(l.nam, n + szS acc + szF l - 2, k + acc.length + 1)])
  | [], n, k => by simp [usF, szS]
  | x :: acc, n, k => by
    rw [List.cons_append, usF, usF_snoc l acc, usF, szS, show n + szF x + szS acc = n + (szF x + szS acc) by omega, show k + 1 + (acc.length : Int) + 1 = k + ((x :: acc).length : Nat) + 1 by rw [List.length_cons]; omega]
    split <;> rfl
theorem plc_lk {w : ByteArray} (hw : w ≠ noB) : ∀ (r : List Ln) (n : Int), plcF w n r = match lkF (labF n r) w with | some v => v | none => -1
  | [], n => rfl
  | l :: r, n => by
    rw [plcF, labF]
    by_cases h1 : l.lab = w
    · have h2 : l.lab ≠ noB := by rw [h1]; exact hw
      rw [if_pos h1, if_neg h2]
      unfold lkF
      rw [List.find?_cons_of_pos (by simpa using h1)]
      rfl
    · rw [if_neg h1, plc_lk hw r]
      by_cases h2 : l.lab = noB
      · rw [if_pos h2]
      · rw [if_neg h2]
        unfold lkF
        rw [List.find?_cons_of_neg (by simpa using h1)]
theorem labF_ge {r : List Ln} (hok : ∀ l ∈ r, LnOk l) : ∀ n, 0 ≤ n → ∀ p ∈ labF n r, 0 ≤ p.2 := by
  induction r with
  | nil => intro n hn p hp; simp [labF] at hp
  | cons l r ih =>
    intro n hn p hp
    have hb := sz_bd (hok l (by simp))
    have ih2 := ih (fun l hl => hok l (by simp [hl])) (n + szF l) (by omega)
    rw [labF] at hp
    split at hp
    · exact ih2 p hp
    · rcases List.mem_cons.1 hp with h | h
      · rw [h]; exact hn
      · exact ih2 p h
theorem lk_ge {acc : List Ln} {w : ByteArray} {v : Int} (hok : ∀ l ∈ acc, LnOk l) (h : lkF (labF 0 acc) w = some v) : 0 ≤ v := by
  obtain ⟨j, hj⟩ := lk_some h
  exact labF_ge hok 0 (Int.le_refl 0) _ (List.mem_of_getElem? hj)
theorem plc_ge {acc : List Ln} {w : ByteArray} (hw : w ≠ noB) (hok : ∀ l ∈ acc, LnOk l) : 0 ≤ plcF w 0 acc ↔ lkF (labF 0 acc) w ≠ none := by
  rw [plc_lk hw]
  cases h : lkF (labF 0 acc) w with
  | none => exact ⟨fun h => absurd h (by decide), fun h => absurd rfl h⟩
  | some v => exact ⟨fun _ => (nofun), fun _ => lk_ge hok h⟩
theorem bs_len : ∀ (acc : List Ln), (∀ l ∈ acc, LnOk l) → ((acc.flatMap lnZb).length : Int) = szS acc
  | [], _ => rfl
  | l :: r, h => by
    have ih := bs_len r (fun l hl => h l (by simp [hl]))
    have h1 := lnZb_sz (h l (by simp))
    have h2 := sz_bd (h l (by simp))
    rw [List.flatMap_cons, List.length_append, szS]
    omega
theorem allB_len (all : List Ln) : ∀ (acc : List Ln), (∀ l ∈ acc, LnG l) → ((allB all acc).length : Int) = szS acc
  | [], _ => rfl
  | l :: r, h => by
    have ih := allB_len all r (fun l hl => h l (by simp [hl]))
    have hg := h l (by simp)
    have h1 := lnZb_sz hg.ok
    have h2 := sz_bd hg.ok
    have h3 : (lnB all l l.nums.length).length = (lnZb l).length := by
      by_cases hn : l.nam = noB
      · rw [lnB_none all l hg.ok.len hn]
      · obtain ⟨ns, ss, e1, e2⟩ := hg.nm hn
        obtain ⟨q1, q2, q3⟩ := lnB_nam all l hg.ok.len hn e1 e2
        rw [q1, q2, List.length_append, List.length_append, p2_len, p2_len]
    unfold allB at ih ⊢
    rw [List.flatMap_cons, List.length_append, szS]
    omega
theorem allB_snoc (all acc : List Ln) (l : Ln) : allB all (acc ++ [l]) = allB all acc ++ lnB all l l.nums.length := by simp [allB]
theorem lay_mid (A B C D : List UInt8) (k : Nat) (hk : k = A.length) (hb : B.length = C.length) : lay (A ++ B ++ D) k C = A ++ C ++ D := by
  subst hk
  have e1 : (A ++ B ++ D).take A.length = A := by rw [List.append_assoc, List.take_left]
  have e2 : (A ++ B ++ D).drop (A.length + C.length) = D := by rw [← hb, ← List.length_append, List.drop_left]
  unfold lay
  rw [e1, e2]
/-- the end: names are filled in -/
theorem pt_eq (all : List Ln) (hall : ∀ l ∈ all, LnG l) : ∀ (r pre : List Ln), pre ++ r = all →
    asR (ptF (labF 0 all) (allB all pre ++ r.flatMap lnZb) (usF (szS pre) pre.length r)) = if (nmsA all pre.length r).2.2 = 0 then (allB all all, 0, 0) else ([], (nmsA all pre.length r).2.1, (nmsA all pre.length r).2.2)
  | [], pre, he => by
    rw [List.append_nil] at he
    subst he
    rw [usF, ptF, nmsA, if_pos rfl]
    simp [asR]
  | l :: r, pre, he => by
    have hg := hall l (by rw [← he]; simp)
    have ih := pt_eq all hall r (pre ++ [l]) (by rw [← he]; simp)
    rw [allB_snoc, szS_snoc, show ((pre ++ [l]).length) = pre.length + 1 by simp, show (((pre.length + 1 : Nat)) : Int) = (pre.length : Int) + 1 by omega] at ih
    rw [usF]
    by_cases hn : l.nam = noB
    · have eN : nmsA all pre.length (l :: r) = nmsA all (pre.length + 1) r := by rw [nmsA]; exact if_neg (fun h => h.1 hn)
      rw [if_pos hn, eN]
      rw [lnB_none all l hg.ok.len hn, List.append_assoc] at ih
      exact ih
    · rw [if_neg hn, ptF]
      have hp := plc_lk hn all 0
      cases hlk : lkF (labF 0 all) l.nam with
      | none =>
        rw [hlk] at hp
        dsimp only at hp
        have eN : nmsA all pre.length (l :: r) = (all, (pre.length : Int) + 1, 14) := by rw [nmsA]; exact if_pos ⟨hn, by rw [hp]; decide⟩
        rw [eN, if_neg (show ¬ (14 : Int) = 0 by decide)]
        rfl
      | some v =>
        rw [hlk] at hp
        dsimp only at hp
        have hv := lk_ge (fun l hl => (hall l hl).ok) hlk
        have eN : nmsA all pre.length (l :: r) = nmsA all (pre.length + 1) r := by rw [nmsA]; exact if_neg (fun h => by rw [hp] at h; exact absurd h.2 (by omega))
        rw [eN]
        obtain ⟨ns, ss, e1, e2⟩ := hg.nm hn
        obtain ⟨q1, q2, q3⟩ := lnB_nam all l hg.ok.len hn e1 e2
        rw [q1, hp] at ih
        have hpl := allB_len all pre (fun l hl => hall l (by rw [← he]; simp [hl]))
        have h1 := lnZb_sz hg.ok
        have h2 := sz_bd hg.ok
        rw [q2, List.length_append, p2_len] at h1
        have e5 : allB all pre ++ (l :: r).flatMap lnZb = (allB all pre ++ lnZ ns ss) ++ p2 0 ++ r.flatMap lnZb := by
          rw [List.flatMap_cons, q2]
          simp only [List.append_assoc]
        have e6 : lay (allB all pre ++ lnZ ns ss ++ p2 0 ++ r.flatMap lnZb) (szS pre + szF l - 2).toNat (p2 v) = allB all pre ++ lnZ ns ss ++ p2 v ++ r.flatMap lnZb := lay_mid _ _ _ _ _ (by rw [List.length_append]; omega) rfl
        dsimp only
        rw [e5, e6]
        rw [show allB all pre ++ lnZ ns ss ++ p2 v = allB all pre ++ (lnZ ns ss ++ p2 v) by simp only [List.append_assoc]]
        exact ih
noncomputable abbrev asP (R : List Ln × Int × Int) : List UInt8 × Int × Int := if R.2.2 = 0 then (allB R.1 R.1, 0, 0) else ([], R.2.1, R.2.2)
noncomputable abbrev xF (acc : List Ln) (k : Int) : Aob := ⟨acc.flatMap lnZb, labF 0 acc, usF 0 0 acc, k⟩
theorem rdX_acc (acc : List Ln) (l : Ln) (hacc : ∀ l ∈ acc, LnOk l) (hl : LnOk l) : rdX (xF acc (acc.length + 1)) l = xF (acc ++ [l]) ((acc ++ [l]).length) := by
  have hb := bs_len acc hacc
  have e0 : (((acc ++ [l]).length : Nat) : Int) = (acc.length : Int) + 1 := by simp
  rw [e0]
  unfold rdX xF
  rw [labF_snoc, usF_snoc, List.flatMap_append, List.flatMap_singleton]
  by_cases h1 : l.lab = noB
  · rw [if_pos h1, if_pos h1, List.append_nil]
    unfold addU
    by_cases h2 : l.nam = noB
    · rw [if_pos h2, if_pos h2, List.append_nil]
    · rw [if_neg h2, if_neg h2]
      dsimp only
      rw [hb, show szS acc + (szF l - 2) = 0 + szS acc + szF l - 2 by omega, show (0 : Int) + (acc.length : Int) + 1 = (acc.length : Int) + 1 by omega]
  · obtain ⟨h3, h4, h5⟩ := hl.lab1 h1
    have h6 : lnZb l = [] := by unfold lnZb; rw [h4]; rfl
    rw [if_neg h1, if_neg h1, if_pos h5, List.append_nil, h6, List.append_nil]
    dsimp only
    rw [hb, show (0 : Int) + szS acc = szS acc by omega]
theorem tx_eq : ∀ (r : List (List UInt8)) (acc : List Ln), (∀ l ∈ acc, LnG l) → szS acc ≤ 1024 → asR (txF (xF acc acc.length) r) = asP (lnsA acc (szS acc) r)
  | [], acc, hacc, hb => by
    rw [txF, lnsA]
    have := pt_eq acc hacc acc [] rfl
    unfold asP
    rw [nms_fst]
    exact this
  | x :: r, acc, hacc, hb => by
    have hg := lnG x
    have ho := fun l hl => (hacc l hl).ok
    have hbl := bs_len acc ho
    have hzl := lnZb_sz hg.ok
    have hzb := sz_bd hg.ok
    rw [txF, lnsA]
    have hX : (⟨(xF acc acc.length).bs, (xF acc acc.length).labs, (xF acc acc.length).uses, (xF acc acc.length).line + 1⟩ : Aob) = xF acc (acc.length + 1) := rfl
    rw [hX]
    have hln : (xF acc acc.length).line = acc.length := rfl
    rw [hln]
    by_cases h1 : (lnF x).bad = true
    · have e : rdE (xF acc (acc.length + 1)) (lnF x) = 3 := if_pos h1
      rw [if_pos h1, e, if_pos (by decide)]
      unfold asP
      rw [if_neg (show ¬ (3 : Int) = 0 by decide)]
      rfl
    · rw [if_neg h1]
      by_cases h2 : (lnF x).lab ≠ noB ∧ 0 ≤ plcF (lnF x).lab 0 acc
      · have h3 : lkF (labF 0 acc) (lnF x).lab ≠ none := (plc_ge h2.1 ho).1 h2.2
        have e : rdE (xF acc (acc.length + 1)) (lnF x) = 14 := by
          unfold rdE
          rw [if_neg h1]
          exact if_pos ⟨h2.1, h3⟩
        rw [if_pos h2, e, if_pos (by decide)]
        unfold asP
        rw [if_neg (show ¬ (14 : Int) = 0 by decide)]
        rfl
      · have h3 : ¬ ((lnF x).lab ≠ noB ∧ lkF (labF 0 acc) (lnF x).lab ≠ none) := fun h => h2 ⟨h.1, (plc_ge h.1 ho).2 h.2⟩
        rw [if_neg h2]
        by_cases h4 : 1024 < szS acc + szF (lnF x)
        · have h5 : (lnF x).lab = noB := Classical.byContradiction fun hc => by
            obtain ⟨q1, q2, q3⟩ := hg.ok.lab1 hc
            have q4 : szF (lnF x) = 0 := by
              have q5 := hg.ok.len
              rw [q2] at q5
              unfold szF
              rw [List.eq_nil_of_length_eq_zero q5.symm]
              rfl
            omega
          have e : rdE (xF acc (acc.length + 1)) (lnF x) = 4 := by
            unfold rdE
            rw [if_neg h1]
            rw [if_neg (show ¬ ((lnF x).lab ≠ noB ∧ lkF (xF acc (acc.length + 1)).labs (lnF x).lab ≠ none) from h3)]
            exact if_pos ⟨h5, by show 1024 < (acc.flatMap lnZb).length + _; omega⟩
          rw [if_pos h4, e, if_pos (by decide)]
          unfold asP
          rw [if_neg (show ¬ (4 : Int) = 0 by decide)]
          rfl
        · have e : rdE (xF acc (acc.length + 1)) (lnF x) = 0 := by
            unfold rdE
            rw [if_neg h1]
            rw [if_neg (show ¬ ((lnF x).lab ≠ noB ∧ lkF (xF acc (acc.length + 1)).labs (lnF x).lab ≠ none) from h3)]
            exact if_neg (fun h => by have h6 : 1024 < (acc.flatMap lnZb).length + (lnZb (lnF x)).length := h.2; omega)
          rw [if_neg h4, e, if_neg (by decide), rdX_acc acc (lnF x) ho hg.ok, ← szS_snoc]
          refine tx_eq r (acc ++ [lnF x]) (fun l hl => ?_) (by rw [szS_snoc]; omega)
          rcases List.mem_append.1 hl with h | h
          · exact hacc l h
          · rw [List.mem_singleton.1 h]; exact hg
theorem asm_eq (s : List UInt8) : asR (txF X0 (splL 10 s)) = asmF s := tx_eq (splL 10 s) [] (fun l hl => by simp at hl) (by decide)
theorem Tryd.asmAssembleF (s : ByteArray) (L : List HP) (hs : s.size ≤ 60000) (hM : Tryd.Mx L) :
    Con Tryd.prog 13 [.string s] L (Is (.tuple #[.string (bsL (asmF s.data.toList).1), .int .i64 (asmF s.data.toList).2.1, .int .i64 (asmF s.data.toList).2.2]) L) := by
  have := Tryd.asmAssemble s L hs hM
  rw [asm_eq] at this
  exact this
end Go.Proofs
