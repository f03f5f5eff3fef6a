/- The assembler's laws: AsmBack. -/
import Derived.Test.YtjlofcnmehpbaaaDoorAsmR
import Derived.Test.YtjlofcnmehpbaaaDoorAsmV
set_option linter.all false
namespace Go.Proofs
open Go.Eng Go.RowKit
open Classical
set_option linter.unusedVariables false
set_option maxRecDepth 100000
set_option maxHeartbeats 4000000
/-! what is printed is assembled: plain -/
abbrev inP (y : Int × Int × Int) : Prop := mayI y.1 y.2.1 y.2.2
noncomputable def wtF (l : List (Int × Int × Int)) : List UInt8 := l.flatMap fun y => if inP y then [u8of y.1, u8of y.2.1] ++ p2 y.2.2 else []
noncomputable def inF (y : Int × Int × Int) : Bool := decide (inP y)
noncomputable def inL (l : List (Int × Int × Int)) : List (List UInt8) := (l.filter inF).map fun y => joinW (inWs y)
theorem fl_pos {y : Int × Int × Int} (l : List (Int × Int × Int)) (h : inP y) : (y :: l).filter inF = y :: l.filter inF := List.filter_cons_of_pos (decide_eq_true h)
theorem fl_neg {y : Int × Int × Int} (l : List (Int × Int × Int)) (h : ¬ inP y) : (y :: l).filter inF = l.filter inF := List.filter_cons_of_neg (fun hc => h (of_decide_eq_true hc))
theorem pr_lines : ∀ l : List (Int × Int × Int), prF l = (inL l).flatMap (· ++ [10])
  | [] => rfl
  | y :: l => by
    have ih := pr_lines l
    unfold prF inL at ih ⊢
    rw [List.flatMap_cons, ih]
    by_cases h : inP y
    · rw [if_pos h, fl_pos l h, List.map_cons, List.flatMap_cons]
      rfl
    · rw [if_neg h, fl_neg l h, List.nil_append]
theorem in_nat {y : Int × Int × Int} (h : inP y) : mayN y.1.toNat y.2.1.toNat y.2.2.toNat ∧ ((y.1.toNat : Int) = y.1 ∧ (y.2.1.toNat : Int) = y.2.1 ∧ (y.2.2.toNat : Int) = y.2.2) := by
  obtain ⟨h1, h2, h3, h4, h5, h6, h7, h8, h9⟩ := h
  refine ⟨⟨by omega, by omega, by omega, fun h => ?_, fun h => ?_, fun h => ?_⟩, by omega, by omega, by omega⟩
  · have := h7 (by omega); omega
  · have := h8 (by omega); omega
  · have := h9 (by omega); omega
theorem ln_in {y : Int × Int × Int} (h : inP y) : lnF (joinW (inWs y)) = ⟨noB, [y.1, y.2.1, y.2.2], [1, 1, 2], noB, false⟩ := by
  obtain ⟨hm, e1, e2, e3⟩ := in_nat h
  have := ln_ins hm
  rw [e1, e2, e3] at this
  exact this
theorem inL_mem {l : List (Int × Int × Int)} {x : List UInt8} (h : x ∈ inL l) : ∃ y, inP y ∧ x = joinW (inWs y) := by
  unfold inL at h
  obtain ⟨y, hy, rfl⟩ := List.mem_map.1 h
  exact ⟨y, of_decide_eq_true (List.mem_filter.1 hy).2, rfl⟩
theorem in_sz : ∀ l : List (Int × Int × Int), szS ((inL l ++ [[]]).map lnF) ≤ 4 * l.length
  | [] => by
    have hnil : lnF [] = nilL := if_pos (.inl rfl)
    show szS [lnF []] ≤ _
    rw [hnil]
    exact Int.le_refl 0
  | y :: l => by
    have ih := in_sz l
    rw [List.length_cons]
    unfold inL at ih ⊢
    by_cases h : inP y
    · rw [fl_pos l h, List.map_cons, List.cons_append, List.map_cons, szS, ln_in h]
      show 4 + _ ≤ _
      omega
    · rw [fl_neg l h]
      omega
theorem in_bytes (all : List Ln) : ∀ l : List (Int × Int × Int), allB all ((inL l ++ [[]]).map lnF) = wtF l
  | [] => by
    have hnil : lnF [] = nilL := if_pos (.inl rfl)
    show allB all [lnF []] = _
    rw [hnil]
    rfl
  | y :: l => by
    have ih := in_bytes all l
    have e2 : ∀ (a : Ln) (b : List Ln), allB all (a :: b) = lnB all a a.nums.length ++ allB all b := fun a b => by unfold allB; rw [List.flatMap_cons]
    unfold inL wtF at ih ⊢
    rw [List.flatMap_cons]
    by_cases h : inP y
    · rw [fl_pos l h, List.map_cons, List.cons_append, List.map_cons, ln_in h, e2, ih, if_pos h, lnB_none all _ rfl rfl]
      rfl
    · rw [fl_neg l h, ih, if_neg h, List.nil_append]
theorem asm_back {l : List (Int × Int × Int)} (h : l.length ≤ 100) : asmF (prF l) = (wtF l, 0, 0) := by
  have hnil : lnF [] = nilL := if_pos (.inl rfl)
  have hln : ∀ x ∈ inL l ++ [[]], (lnF x).bad = false ∧ (lnF x).lab = noB ∧ (lnF x).nam = noB := fun x hx => by
    rcases List.mem_append.1 hx with hx | hx
    · obtain ⟨y, hy, rfl⟩ := inL_mem hx
      rw [ln_in hy]
      exact ⟨rfl, rfl, rfl⟩
    · rw [List.mem_singleton.1 hx, hnil]
      exact ⟨rfl, rfl, rfl⟩
  have hs : splL 10 (prF l) = inL l ++ [[]] := by
    rw [pr_lines]
    refine spl_lines _ fun x hx => ?_
    obtain ⟨y, hy, rfl⟩ := inL_mem hx
    have hc := (in_nat hy).1.1
    exact insWs_no10 hc (dec_no _).2
  have hz := in_sz l
  have key := asm_good hs (fun x hx => (hln x hx).1) (fun pre x post he hx => absurd (hln x (by rw [he]; simp)).2.1 hx) (by omega) (fun x hx hn => absurd (hln x hx).2.2 hn)
  rw [key, in_bytes]
theorem inT_len {y : Int × Int × Int} (h : inP y) : (inT y).length ≤ 22 := by
  have hm := (in_nat h).1
  have := insWs_len (last := decB y.2.2.toNat) hm (by have : (decB y.2.2.toNat).size ≤ 5 := dec_len 4 _ (by have := hm.2.2.1; omega); omega)
  unfold inT
  rw [List.length_append]
  show (joinW (insWs _ _ _ _)).length + 1 ≤ 22
  omega
theorem prF_len : ∀ l : List (Int × Int × Int), (prF l).length ≤ 22 * l.length
  | [] => by simp [prF]
  | y :: l => by
    have ih := prF_len l
    unfold prF at ih ⊢
    rw [List.flatMap_cons, List.length_append, List.length_cons]
    by_cases h : inP y
    · have := inT_len h
      rw [if_pos h]
      omega
    · rw [if_neg h, List.length_nil]
      omega
/-! the walk -/
theorem Tryd.refPut19 (c x n : Int) (L : List HP) (h : mayI c x n) : Con Tryd.prog 13 [insV c x n] L (Is (.string (bsL ([u8of c, u8of x] ++ p2 n))) L) := by
  have hp := fun L => Tryd.refPut02 n L (by have := h.2.2.2.2.1; have := h.2.2.2.2.2.1; omega)
  obtain ⟨u, rfl⟩ : ∃ u : UInt8, c = u.toNat := ⟨u8of c, by rw [u8of_int]; have := h.1; have := h.2.1; omega⟩
  rw [u8of_toNat]
  have e : bsL ([u, u8of x] ++ p2 n) = bsL [u, u8of x] ++ bsL (p2 n) := str_ext (by rw [append_list])
  have h1 : (bsL [u, u8of x]).size = 2 := rfl
  have h2 : (bsL (p2 n)).size = 2 := rfl
  rw [e]
  refine con_of Tryd.tysOk Tryd.func13 rfl rfl ?_
  conv => whnf
  repeat' (first
    | ((with_reducible refine Ar.u8b ?_); conv => whnf)
    | ((with_reducible refine Nc.go' (fun _ => ?_)); conv => whnf)
    | (refine Ld.at 0 rfl rfl ?_; conv => whnf)
    | ((with_reducible refine Dr.by (id := 1) Tryd.tysOk rfl [(0, 0), (2, 0), (7, 0), (1, 1), (3, 1), (4, 0), (8, 1), (9, 1), (5, 2), (6, 1), (10, 0), (11, 0)] ?_ ?_); (focus kernel_rfl); conv => whnf)
    | ((with_reducible refine (?_ : SR _ (convert _ _ _) _ _)); ((apply (SR.b2s Tryd.tysOk)); (rotate_left; (focus (exact Rd.ptc 0 rfl [_, _] rfl)); rotate_right; (focus rfl)); (focus rfl); (focus rfl); (focus rfl); (focus rfl); (focus rfl); (focus rfl); conv => whnf))
    | ((with_reducible refine CD.is (fun M => hp _) ?_); conv => whnf)
    | ((refine Nd.mk (by rw [h2]; exact Nat.le_of_ble_eq_true rfl) ?_); conv => whnf))
  all_goals first | (exfalso; omega) | (refine Is.ent ?_ ?_; (focus (refine FEnt.ent ?_; (repeat (first | exact FEnt.rfl | refine FEnt.drop ?_)); done)); (exact Is.rfl))
theorem wt_step {l : List (Int × Int × Int)} {i : Nat} (hi : i < l.length) : bsL (wtF (l.take (i + 1))) = bsL (wtF (l.take i)) ++ bsL (if inP (l.getD i inE.d) then [u8of (l.getD i inE.d).1, u8of (l.getD i inE.d).2.1] ++ p2 (l.getD i inE.d).2.2 else []) := by
  refine str_ext ?_
  rw [append_list, bsL_list, bsL_list, bsL_list, List.take_add_one, List.getElem?_eq_getElem hi]
  have e : l.getD i inE.d = l[i] := by simp [List.getD, hi]
  rw [e]
  unfold wtF
  rw [List.flatMap_append]
  show _ ++ List.flatMap _ [l[i]] = _
  rw [List.flatMap_singleton]
theorem Tryd.asmBackLaw (a : Option Addr) (c : Nat) (l : List (Int × Int × Int)) (L : List HP) (hc : l.length ≤ c) (hm : c ≤ 9223372036854775807) (hr : Rd inE L a l) (hi : ∀ y ∈ l, 0 ≤ y.1 ∧ y.1 ≤ 255) (hG : Tryd.Gk L) (hM : Tryd.Mx L) :
    Con Tryd.prog 6 [.slice a l.length c] L (Is (.bool true) L) := by
  have h100 : (List.take (min (l.length : Int) 100).toNat l).length ≤ 100 := by rw [List.length_take]; omega
  have hr2 : Rd inE L a (List.take (min (l.length : Int) 100).toNat l) := hr.take _
  have hi2 : ∀ y ∈ List.take (min (l.length : Int) 100).toNat l, 0 ≤ y.1 ∧ y.1 ≤ 255 := fun y hy => hi y (List.mem_of_mem_take hy)
  have hlv := fun L h => Tryd.asmLive L h
  refine con_of Tryd.tysOk Tryd.func6 rfl rfl ?_
  conv => whnf
  repeat' ((with_reducible refine Sub.pre ?_ rfl ?_ ?_ ?_); (focus (first | exact Or.inl rfl | exact Or.inr ⟨_, rfl⟩)); (focus (omega)); (focus (omega)); conv => whnf)
  clear hr hi
  generalize List.take (min (l.length : Int) 100).toNat l = us at *
  have hpr := fun c L h hg => Tryd.asmPrint a c us L h (by omega) hi2 hg
  have hpl := prF_len us
  have has := fun L h => Tryd.asmAssembleF (bsL (prF us)) L (by rw [bsL_size]; omega) h
  rw [bsL_list, asm_back h100] at has
  conv => whnf
  refine Lp.by2 Tryd.tysOk [4, 3] (fun (i : Nat) (o : ByteArray) => [.int .i64 i, .string o]) (fun i o => L) (fun i o => (i ≤ us.length ∧ o.size ≤ 4 * i) ∧ o = bsL (wtF (us.take i))) (fun i o => us.length - i) (0) ((⟨#[]⟩ : ByteArray)) (by kernel_rfl) (by (exact Ent.rfl)) (⟨⟨by omega, by decide⟩, rfl⟩) ?_
  rintro i o ⟨⟨g1, g2⟩, g3⟩
  conv => whnf
  repeat (intro _; conv => whnf)
  by_cases hi : i < us.length
  · have hcb := hi2 _ (getD_mem (d := inE.d) hi)
    have hst := wt_step hi
    rw [← g3] at hst
    have hmy := fun L => Tryd.refMay (us.getD i inE.d).1 (us.getD i inE.d).2.1 (us.getD i inE.d).2.2 L hcb
    clear hpr has hlv hi2
    by_cases h : inP (us.getD i inE.d)
    · rw [if_pos h] at hst
      have hmy := fun L => Con.dt h (hmy L)
      have hp := fun L => Tryd.refPut19 (us.getD i inE.d).1 (us.getD i inE.d).2.1 (us.getD i inE.d).2.2 L h
      have h4 : (bsL ([u8of (us.getD i inE.d).1, u8of (us.getD i inE.d).2.1] ++ p2 (us.getD i inE.d).2.2)).size = 4 := rfl
      clear h g3
      generalize bsL ([u8of (us.getD i inE.d).1, u8of (us.getD i inE.d).2.1] ++ p2 (us.getD i inE.d).2.2) = W at *
      have hz := app_size o W
      conv => whnf
      repeat' (first
        | (first | ((with_reducible refine Br.tt ?_); conv => whnf) | ((with_reducible refine Br.dt ?_ ?_); (focus (first | assumption | omega)); conv => whnf))
        | ((with_reducible refine Ar.i64 ?_ ?_); (focus omega); conv => whnf)
        | ((with_reducible refine Nd.mk ?_ ?_); (focus (first | omega | rfl | assumption | (simp; done))); conv => whnf)
        | ((with_reducible refine Ix.ad ?_ ?_ ?_); (focus (exact Rd.ad (by assumption))); (focus (omega)); conv => whnf)
        | ((with_reducible apply LdN.rdk); (focus ((repeat (assumption)); done)); (focus rfl); (focus rfl); (focus (omega)); conv => whnf)
        | (first | ((with_reducible refine (?_ : Cl _ 12 _ _ _ _)); (refine Cl.is (hmy _) ?_); conv => whnf) | ((with_reducible refine (?_ : Cl _ 13 _ _ _ _)); (refine Cl.is (hp _) ?_); conv => whnf)))
      all_goals first | (exfalso; omega) | exact ⟨i + 1, o ++ W, by kernel_rfl, by (exact Ent.rfl), ⟨⟨by omega, by omega⟩, hst.symm⟩, by omega⟩
    · rw [if_neg h] at hst
      have hmy := fun L => Con.df h (hmy L)
      have e0 : o ++ bsL [] = o := str_ext (by rw [append_list]; simp)
      rw [e0] at hst
      clear h g3
      conv => whnf
      repeat' (first
        | (first | ((with_reducible refine Br.ff ?_); conv => whnf) | ((with_reducible refine Br.dt ?_ ?_); (focus (first | assumption | omega)); conv => whnf))
        | ((with_reducible refine Ar.i64 ?_ ?_); (focus omega); conv => whnf)
        | ((with_reducible refine Ix.ad ?_ ?_ ?_); (focus (exact Rd.ad (by assumption))); (focus (omega)); conv => whnf)
        | ((with_reducible apply LdN.rdk); (focus ((repeat (assumption)); done)); (focus rfl); (focus rfl); (focus (omega)); conv => whnf)
        | ((with_reducible refine (?_ : Cl _ 12 _ _ _ _)); (refine Cl.is (hmy _) ?_); conv => whnf))
      all_goals first | (exfalso; omega) | exact ⟨i + 1, o, by kernel_rfl, by (exact Ent.rfl), ⟨⟨by omega, by omega⟩, hst.symm⟩, by omega⟩
  · rw [List.take_of_length_le (by omega)] at g3
    subst g3
    clear hi2
    generalize bsL (prF us) = V at *
    generalize bsL (wtF us) = W at *
    conv => whnf
    repeat' (first
      | (first | ((with_reducible refine Br.tt ?_); conv => whnf) | ((with_reducible refine Br.df ?_ ?_); (focus (first | assumption | omega)); conv => whnf) | ((with_reducible refine Br.yes ?_ ?_); (focus (first | (simp; done) | (simp; omega))); conv => whnf))
      | ((with_reducible refine Nd.mk ?_ ?_); (focus (first | omega | rfl | assumption | (simp; done))); conv => whnf)
      | (first | ((with_reducible refine Cl.is (hpr _ _ (by ((repeat (assumption)); done)) (by ((repeat (first | assumption | apply Tryd.gkCons | apply Tryd.gkApp)); done))) ?_); conv => whnf) | ((with_reducible refine Cl.is (has _ (by ((repeat (first | assumption | apply Tryd.mxCons | apply Tryd.mxApp)); done))) ?_); conv => whnf) | ((with_reducible refine Cl.is (hlv _ (by ((repeat (first | assumption | apply Tryd.mxCons | apply Tryd.mxApp)); done))) ?_); conv => whnf)))
    all_goals first | (exfalso; omega) | (refine Is.ent ?_ ?_; (focus (exact Ent.rfl)); (exact Is.rfl))
end Go.Proofs
