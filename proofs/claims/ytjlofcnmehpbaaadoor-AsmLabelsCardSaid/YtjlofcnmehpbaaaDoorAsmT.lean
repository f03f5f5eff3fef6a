/- The assembler's labels: plain. -/
import Derived.Test.YtjlofcnmehpbaaaDoorAsmR
import Derived.Test.YtjlofcnmehpbaaaDoorAsmW
set_option linter.all false
namespace Go.Proofs
open Go.Eng Go.RowKit Go.MapKept
open Classical
set_option linter.unusedVariables false
set_option maxRecDepth 100000
set_option maxHeartbeats 4000000
theorem pt_labs : ∀ (us : List (ByteArray × Int × Int)) (labs : List (ByteArray × Int)) (bs b : List UInt8) (l : List (ByteArray × Int)), ptF labs bs us = .done b l → l = labs
  | [], labs, bs, b, l, h => by rw [ptF] at h; injection h with h1 h2; exact h2.symm
  | u :: r, labs, bs, b, l, h => by
    rw [ptF] at h
    cases hl : lkF labs u.1 with
    | none => rw [hl] at h; cases h
    | some v => rw [hl] at h; exact pt_labs r labs _ b l h
theorem lk_app (a b : List (ByteArray × Int)) (w : ByteArray) : lkF (a ++ b) w = (lkF a w).or (lkF b w) := by
  unfold lkF
  rw [List.find?_append]
  cases a.find? fun p => decide (p.1 = w) <;> simp
/-- where all goes well: the labels, none of them twice -/
theorem tx_labs {bs : List UInt8} {labs : List (ByteArray × Int)} : ∀ (r : List (List UInt8)) (acc : List Ln), (∀ l ∈ acc, LnG l) → szS acc ≤ 1024 → txF (xF acc acc.length) r = .done bs labs →
    labs = labF 0 (acc ++ r.map lnF) ∧ ∀ pre x post, r = pre ++ x :: post → (lnF x).lab ≠ noB → lkF (labF 0 (acc ++ pre.map lnF)) (lnF x).lab = none
  | [], acc, hacc, hb, h => by
    rw [txF] at h
    have := pt_labs _ _ _ _ _ h
    refine ⟨by rw [this]; simp, fun pre x post e => by simp at e⟩
  | y :: r, acc, hacc, hb, h => by
    rw [txF] at h
    have hg := lnG y
    have ho := fun l hl => (hacc l hl).ok
    have hX : (⟨(xF acc acc.length).bs, (xF acc acc.length).labs, (xF acc acc.length).uses, (xF acc acc.length).line + 1⟩ : Aob) = xF acc (acc.length + 1) := rfl
    rw [hX] at h
    by_cases hE : rdE (xF acc (acc.length + 1)) (lnF y) ≠ 0
    · rw [if_pos hE] at h; cases h
    · rw [if_neg hE, rdX_acc acc (lnF y) ho hg.ok] at h
      have h0 : rdE (xF acc (acc.length + 1)) (lnF y) = 0 := Classical.not_not.1 hE
      obtain ⟨z1, z2, z3⟩ := rdE_zero h0
      have hsz : szS (acc ++ [lnF y]) ≤ 1024 := by
        have hbl := bs_len acc ho
        have hzl := lnZb_sz hg.ok
        have hzb := sz_bd hg.ok
        rw [szS_snoc]
        by_cases hc : (lnF y).lab = noB
        · have z4 : (acc.flatMap lnZb).length + (lnZb (lnF y)).length ≤ 1024 := z3 hc
          omega
        · obtain ⟨q1, q2, q3⟩ := hg.ok.lab1 hc
          have q4 : szF (lnF y) = 0 := by
            have q5 := hg.ok.len
            rw [q2] at q5
            unfold szF
            rw [List.eq_nil_of_length_eq_zero q5.symm]
            rfl
          omega
      obtain ⟨i1, i2⟩ := tx_labs r (acc ++ [lnF y]) (fun l hl => by
        rcases List.mem_append.1 hl with h | h
        · exact hacc l h
        · rw [List.mem_singleton.1 h]; exact hg) hsz h
      refine ⟨by rw [i1]; simp, fun pre x post e hx => ?_⟩
      cases pre with
      | nil =>
        obtain ⟨rfl, _⟩ := List.cons.inj e
        have := z2 hx
        simpa using this
      | cons z pre =>
        obtain ⟨rfl, e2⟩ := List.cons.inj e
        have := i2 pre x post e2 hx
        simpa using this
theorem wds_one {l : List UInt8} (h : (wds l).length = 1) : wds l = [bsL l] := by
  have h1 : (spl 32 l).2 = [] := by
    have : (splL 32 l).length = 1 := by rw [← h]; simp
    unfold splL at this
    rw [List.length_cons] at this
    exact List.eq_nil_of_length_eq_zero (by omega)
  have h2 := spl_join 32 l
  rw [h1] at h2
  show (splL 32 l).map bsL = _
  unfold splL
  rw [h1]
  simp at h2
  rw [h2]
  rfl
theorem lab_of {l : List UInt8} (h : (lnF l).lab ≠ noB) : l = (lnF l).lab.data.toList ++ [58] := by
  by_cases h0 : l = [] ∨ (l.headD 0).toNat = 35
  · exact absurd (show (lnF l).lab = noB by unfold lnF; rw [if_pos h0]; rfl) h
  · have e : lnF l = wlnF (wds l) := if_neg h0
    rw [e, wln_lab] at h ⊢
    by_cases hA : (wds l).length = 1 ∧ labP (wat (wds l) 0)
    · rw [if_pos hA]
      have e1 : wat (wds l) 0 = bsL l := by rw [wds_one hA.1]; rfl
      obtain ⟨a1, a2, a3⟩ := hA.2
      rw [e1] at a1 a2 ⊢
      rw [bsL_size] at a1 a2 ⊢
      show l = ((bsL l).extract 0 (l.length - 1)).data.toList ++ [58]
      rw [ext_pre, bsL_list]
      have e2 : sAt (bsL l) (l.length - 1) = l[l.length - 1]'(by omega) := by
        rw [← sAt_get (s := bsL l) (k := l.length - 1) (by rw [bsL_size]; omega)]
      rw [e2] at a2
      have e3 : l[l.length - 1]'(by omega) = 58 := UInt8.toNat_inj.1 a2
      have e4 : l.take (l.length - 1 + 1) = l.take (l.length - 1) ++ [58] := by
        rw [List.take_add_one, List.getElem?_eq_getElem (by omega), e3]
        rfl
      rw [← e4, List.take_of_length_le (by omega)]
    · rw [if_neg hA] at h
      exact absurd (byt_lab _) h
theorem labF_app : ∀ (a : List Ln) (b : List Ln) (n : Int), labF n (a ++ b) = labF n a ++ labF (n + szS a) b
  | [], b, n => by simp [labF, szS]
  | x :: a, b, n => by
    rw [List.cons_append, labF, labF_app a b, labF, szS, show n + szF x + szS a = n + (szF x + szS a) by omega]
    split <;> rfl
theorem labF_of : ∀ (r : List (List UInt8)) (n : Int) (p : ByteArray × Int), p ∈ labF n (r.map lnF) → Ltrs p.1
  | [], n, p, h => by simp [labF] at h
  | x :: r, n, p, h => by
    rw [List.map_cons, labF] at h
    split at h
    · exact labF_of r _ p h
    · rename_i hn
      rcases List.mem_cons.1 h with h | h
      · rw [h]; exact ((ok_ln x).lab1 hn).1
      · exact labF_of r _ p h
/-- what a line gives to the labels' list -/
noncomputable def lbF (labs : List (ByteArray × Int)) (l : List UInt8) : List (ByteArray × Int) :=
  if Lib.hasSuffix l [58] = true then (match lkF labs ⟨(Lib.trimSuffix l [58]).toArray⟩ with | some v => [(⟨(Lib.trimSuffix l [58]).toArray⟩, v)] | none => []) else []
theorem suf_lab (w : ByteArray) : Lib.hasSuffix (w.data.toList ++ [58]) [58] = true ∧ (⟨(Lib.trimSuffix (w.data.toList ++ [58]) [58]).toArray⟩ : ByteArray) = w := by
  have h1 : Lib.hasSuffix (w.data.toList ++ [58]) [58] = true := by unfold Lib.hasSuffix List.isSuffixOf; simp
  refine ⟨h1, ?_⟩
  have := trim_58 (bsL (w.data.toList ++ [58])) h1
  rw [bsL_list] at this
  rw [this]
  refine str_ext ?_
  rw [ext_pre, bsL_list, bsL_size, List.length_append]
  show (w.data.toList ++ [58]).take (w.data.toList.length + 1 - 1) = _
  rw [Nat.add_sub_cancel, List.take_left]
theorem lb_all {labs : List (ByteArray × Int)} {r : List (List UInt8)} (hl : labs = labF 0 (r.map lnF)) (hn : ∀ pre x post, r = pre ++ x :: post → (lnF x).lab ≠ noB → lkF (labF 0 (pre.map lnF)) (lnF x).lab = none) :
    ∀ (post pre : List (List UInt8)), r = pre ++ post → post.flatMap (lbF labs) = labF (szS (pre.map lnF)) (post.map lnF)
  | [], pre, e => rfl
  | x :: post, pre, e => by
    have ih := lb_all hl hn post (pre ++ [x]) (by rw [e]; simp)
    rw [List.map_append, List.map_cons, List.map_nil, szS_snoc] at ih
    rw [List.flatMap_cons, List.map_cons, labF, ih]
    by_cases h : (lnF x).lab = noB
    · rw [if_pos h]
      have e1 : lbF labs x = [] := by
        unfold lbF
        split
        · rename_i hs
          cases hk : lkF labs ⟨(Lib.trimSuffix x [58]).toArray⟩ with
          | none => rfl
          | some v =>
            exfalso
            obtain ⟨j, hj⟩ := lk_some hk
            have hm := List.mem_of_getElem? hj
            rw [hl] at hm
            have hL := labF_of r 0 _ hm
            have e2 := trim_58 (bsL x) hs
            rw [bsL_list] at e2
            -- x is that word and ':'
            have e3 : x = (⟨(Lib.trimSuffix x [58]).toArray⟩ : ByteArray).data.toList ++ [58] := by
              have hs2 : Lib.hasSuffix (bsL x).data.toList [58] = true := hs
              rw [suf_58] at hs2
              obtain ⟨a1, a2⟩ := of_decide_eq_true hs2
              rw [e2, ext_pre, bsL_list, bsL_size]
              rw [bsL_size] at a1 a2
              have e2 : sAt (bsL x) (x.length - 1) = x[x.length - 1]'(by omega) := by
                rw [← sAt_get (s := bsL x) (k := x.length - 1) (by rw [bsL_size]; omega)]
              rw [e2] at a2
              have e3 : x[x.length - 1]'(by omega) = 58 := UInt8.toNat_inj.1 a2
              have e4 : x.take (x.length - 1 + 1) = x.take (x.length - 1) ++ [58] := by
                rw [List.take_add_one, List.getElem?_eq_getElem (by omega), e3]
                rfl
              rw [← e4, List.take_of_length_le (by omega)]
            have e5 := lab_line hL
            rw [← e3] at e5
            rw [e5] at h
            exact ltr_ne hL h
        · rfl
      rw [e1, List.nil_append]
    · rw [if_neg h]
      have e1 := lab_of h
      obtain ⟨s1, s2⟩ := suf_lab (lnF x).lab
      rw [← e1] at s1 s2
      have e2 : lkF labs (lnF x).lab = some (szS (pre.map lnF)) := by
        rw [hl, e, List.map_append, List.map_cons, labF_app, lk_app, hn pre x post e h, labF, if_neg h]
        unfold lkF
        rw [List.find?_cons_of_pos (by simp)]
        simp
      have e3 : lbF labs x = [((lnF x).lab, szS (pre.map lnF))] := by
        unfold lbF
        rw [if_pos s1, s2, e2]
      rw [e3]
      rfl
end Go.Proofs
