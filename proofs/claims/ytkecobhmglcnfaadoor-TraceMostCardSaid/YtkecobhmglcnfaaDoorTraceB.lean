/- Marks: picked ones, sorted ones, the same ones; names: contracts. -/
import Derived.Test.YtkecobhmglcnfaaDoorTraceA
set_option linter.all false
namespace Go.Proofs
open Go.Eng
open Classical
set_option linter.unusedVariables false
set_option maxRecDepth 100000
set_option maxHeartbeats 2000000
theorem Tryd.trcOf (a a' : Option Addr) (c c' : Nat) (xs : List Mrk) (ss : List Int) (L : List HP) (hl : xs.length ≤ 100000) (hs : ss.length ≤ 1000) (hr : Rd mrE L a xs) (hr' : Rd soE L a' ss) :
    Con Tryd.prog 8 [.slice a xs.length c, .slice a' ss.length c'] L (New mrE 29 (xs.filter fun m => decide (m.s ∈ ss)) L) := by
  have hp := fun b => Tryd.trcPick a c xs 26 [.pointer (some ⟨b, 0, none⟩)] (fun m => decide (m.s ∈ ss)) (ptc b 23 [.slice a' ss.length c'] :: L) hl (by ((repeat (first | assumption | apply Rd.cons)); done)) (fun x M => Con.isAt List.perm_middle (Tryd.trcOf1 b x a' c' ss (M ++ L) hs (by ((repeat (first | assumption | apply Rd.app)); done))))
  refine con_of Tryd.tysOk Tryd.func8 rfl rfl ?_
  conv => whnf
  repeat' (first
    | ((with_reducible refine Nc.go' (fun _ => ?_)); conv => whnf)
    | ((with_reducible refine Cl.new (hp _) (fun _ _ _ _ => ?_)); conv => whnf))
  all_goals (rename_i a5 c5 hc5 had5; exact New.of rfl hc5 had5 (by (refine FEnt.ent ?_; (repeat (first | exact FEnt.rfl | (refine FEnt.at 0 rfl ?_; (try simp only [List.eraseIdx_cons_zero, List.eraseIdx_cons_succ, List.eraseIdx_zero, List.tail_cons])) | refine FEnt.drop ?_)); done)))
theorem Tryd.trcBetween1 (b : Nat) (m : Mrk) (f t : Int) (L : List HP) :
    Con Tryd.prog 31 [mrV m, .pointer (some ⟨b, 0, none⟩)] (ptc b 25 [z64 f, z64 t] :: L) (Is (.bool (decide (0 ≤ f ∧ f ≤ m.t ∧ m.t < t))) (ptc b 25 [z64 f, z64 t] :: L)) := by
  have e : (0 ≤ f ∧ f ≤ m.t ∧ m.t < t) ↔ (isS f t ∧ f ≤ m.t ∧ m.t < t) := by unfold isS; omega
  rw [decide_eq_decide.2 e]
  refine con_of Tryd.tysOk Tryd.func31 rfl rfl ?_
  conv => whnf
  repeat' (first
    | ((with_reducible refine Nc.go' (fun _ => ?_)); conv => whnf)
    | (refine Ld.at 0 rfl rfl ?_; conv => whnf)
    | (refine LdN.at 1 rfl (by first | exact Nat.le_of_ble_eq_true rfl | (simp; done)) ?_; conv => whnf)
    | ((with_reducible refine Cl.is (Tryd.spanHolds _ _ _ _) ?_); conv => whnf))
  all_goals (refine Is.ent ?_ ?_; (focus (refine FEnt.ent ?_; (repeat (first | exact FEnt.rfl | (refine FEnt.at 1 rfl ?_; (try simp only [List.eraseIdx_cons_zero, List.eraseIdx_cons_succ, List.eraseIdx_zero, List.tail_cons])) | refine FEnt.drop ?_)); done)); (exact Is.rfl))
theorem Tryd.trcBetween (a : Option Addr) (c : Nat) (xs : List Mrk) (f t : Int) (L : List HP) (hl : xs.length ≤ 100000) (hr : Rd mrE L a xs) :
    Con Tryd.prog 13 [.slice a xs.length c, spV f t] L (New mrE 29 (xs.filter fun m => decide (0 ≤ f ∧ f ≤ m.t ∧ m.t < t)) L) := by
  have hp := fun b => Tryd.trcPick a c xs 31 [.pointer (some ⟨b, 0, none⟩)] (fun m => decide (0 ≤ f ∧ f ≤ m.t ∧ m.t < t)) (ptc b 25 [z64 f, z64 t] :: L) hl (by ((repeat (first | assumption | apply Rd.cons)); done)) (fun x M => Con.isAt List.perm_middle (Tryd.trcBetween1 b x f t (M ++ L)))
  refine con_of Tryd.tysOk Tryd.func13 rfl rfl ?_
  conv => whnf
  repeat' (first
    | ((with_reducible refine Nc.go' (fun _ => ?_)); conv => whnf)
    | ((with_reducible refine Cl.new (hp _) (fun _ _ _ _ => ?_)); conv => whnf))
  all_goals (rename_i a5 c5 hc5 had5; exact New.of rfl hc5 had5 (by (refine FEnt.ent ?_; (repeat (first | exact FEnt.rfl | (refine FEnt.at 0 rfl ?_; (try simp only [List.eraseIdx_cons_zero, List.eraseIdx_cons_succ, List.eraseIdx_zero, List.tail_cons])) | refine FEnt.drop ?_)); done)))
theorem Tryd.trcOutputs (a : Option Addr) (c : Nat) (xs : List Mrk) (L : List HP) (hl : xs.length ≤ 100000) (hr : Rd mrE L a xs) :
    Con Tryd.prog 14 [.slice a xs.length c] L (New mrE 29 (xs.filter fun m => decide (7 ≤ m.s ∧ m.s ≤ 9)) L) := by
  have e : (fun m : Mrk => decide (7 ≤ m.s ∧ m.s ≤ 9)) = fun m => decide (m.s ∈ [(7 : Int), 8, 9]) := by
    funext m
    refine decide_eq_decide.2 ?_
    simp only [List.mem_cons, List.mem_nil_iff, or_false]
    omega
  rw [e]
  have hp := fun b L h1 h2 => Tryd.trcOf a (some ⟨b, 0, none⟩) c 3 xs [7, 8, 9] L hl (by simp) h1 h2
  refine con_of Tryd.tysOk Tryd.func14 rfl rfl ?_
  conv => whnf
  repeat' (first
    | ((with_reducible refine Nc.go' (fun _ => ?_)); conv => whnf)
    | ((with_reducible refine (?_ : Cl _ 8 _ _ _ _)); (refine Cl.new (hp _ _ (by ((repeat (first | assumption | apply Rd.cons)); done)) (Rd.ptc 0 rfl [7, 8, 9] rfl)) (fun _ _ _ _ => ?_)); conv => whnf))
  all_goals (rename_i a5 c5 hc5 had5; exact New.of rfl hc5 had5 (by (refine FEnt.ent ?_; (repeat (first | exact FEnt.rfl | (refine FEnt.at 0 rfl ?_; (try simp only [List.eraseIdx_cons_zero, List.eraseIdx_cons_succ, List.eraseIdx_zero, List.tail_cons])) | refine FEnt.drop ?_)); done)))
/-- ticks that never fall -/
def sortT (xs : List Mrk) : Prop := ∀ i, i + 1 < xs.length → (xs.getD i mrE.d).t ≤ (xs.getD (i + 1) mrE.d).t
theorem Tryd.trcSorted1 (x y : Mrk) (L : List HP) : Con Tryd.prog 29 [mrV x, mrV y] L (Is (z64 (cmpI x.t y.t)) L) := by
  refine con_of Tryd.tysOk Tryd.func29 rfl rfl ?_
  conv => whnf
  repeat' (first
    | ((with_reducible refine Nc.go' (fun _ => ?_)); conv => whnf)
    | (first | (refine Ld.at 0 rfl rfl ?_; conv => whnf) | (refine Ld.at 1 rfl rfl ?_; conv => whnf))
    | ((with_reducible refine Cl.is (Tryd.compare _ _ _) ?_); conv => whnf))
  all_goals (refine Is.ent ?_ ?_; (focus (refine FEnt.ent ?_; (repeat (first | exact FEnt.rfl | refine FEnt.drop ?_)); done)); (exact Is.rfl))
theorem Tryd.trcSorted (a : Option Addr) (c : Nat) (xs : List Mrk) (L : List HP) (hl : xs.length ≤ 100000) (hr : Rd mrE L a xs) : Con Tryd.prog 11 [.slice a xs.length c] L (Is (.bool (decide (sortT xs))) L) := by
  have key : ∀ L, Rd mrE L a xs → Con Tryd.prog 28 [.slice a xs.length c, .func (.func 29) #[] #[]] L (Is (.bool (decide (sortT xs))) L) := by
    intro L hr
    have hc := fun x y L => Tryd.trcSorted1 x y L
    refine con_of Tryd.tysOk Tryd.func28 rfl rfl ?_
    conv => whnf
    repeat' ((with_reducible refine Ar.i64 ?_ ?_); (focus omega); conv => whnf)
    conv => whnf
    refine Lp.by Tryd.tysOk [5] (fun (j : Int) => [z64 j]) (fun j => L) (fun j => (-1 ≤ j ∧ j < xs.length) ∧ ∀ i : Nat, j ≤ i → i + 1 < xs.length → (xs.getD i mrE.d).t ≤ (xs.getD (i + 1) mrE.d).t) (fun j => (j + 1).toNat) ((xs.length : Int) - 1) (by kernel_rfl) (by (exact Ent.rfl)) (⟨by omega, fun i h1 h2 => by omega⟩) ?_
    rintro j ⟨g1, g2⟩
    conv => whnf
    repeat (intro _; conv => whnf)
    by_cases hj : 0 < j
    · have e1 : j.toNat = (j - 1).toNat + 1 := by omega
      by_cases hlt : (xs.getD j.toNat mrE.d).t < (xs.getD (j - 1).toNat mrE.d).t
      · have hno : ¬ sortT xs := fun h => by
          have := h (j - 1).toNat (by omega)
          rw [← e1] at this
          omega
        rw [decide_eq_false hno]
        have hcm : cmpI (xs.getD j.toNat mrE.d).t (xs.getD (j - 1).toNat mrE.d).t < 0 := by unfold cmpI; rw [if_pos hlt]; omega
        clear g2 hno
        conv => whnf
        repeat' (first
          | ((with_reducible refine Br.dt ?_ ?_); (focus (first | assumption | omega)); conv => whnf)
          | ((with_reducible refine Ar.i64 ?_ ?_); (focus omega); conv => whnf)
          | ((with_reducible refine Ix.ad ?_ ?_ ?_); (focus (exact Rd.ad (by assumption))); (focus (omega)); conv => whnf)
          | ((apply LdN.rd); (focus ((repeat (assumption)); done)); (focus rfl); (focus rfl); (focus (omega)); conv => whnf)
          | ((with_reducible refine Dr.by (id := 4) Tryd.tysOk rfl [(0, 0), (1, 0), (2, 0), (3, 0), (5, 0), (6, 0), (7, 0), (8, 0), (4, 1), (9, 1), (10, 3), (11, 0)] ?_ ?_); (focus kernel_rfl); conv => whnf)
          | ((with_reducible refine Cl.is (hc _ _ _) ?_); conv => whnf))
        all_goals first | (refine Is.ent ?_ ?_; (focus (exact Ent.rfl)); (exact Is.rfl)) | (exfalso; omega)
      · have hcm : ¬ cmpI (xs.getD j.toNat mrE.d).t (xs.getD (j - 1).toNat mrE.d).t < 0 := by unfold cmpI; rw [if_neg hlt]; split <;> omega
        have hnx : ∀ i : Nat, j - 1 ≤ i → i + 1 < xs.length → (xs.getD i mrE.d).t ≤ (xs.getD (i + 1) mrE.d).t := fun i h1 h2 => by
          by_cases hi : i = (j - 1).toNat
          · subst hi
            rw [← e1]
            omega
          · exact g2 i (by omega) h2
        clear g2
        conv => whnf
        repeat' (first
          | (first | ((with_reducible refine Br.dt ?_ ?_); (focus (first | assumption | omega)); conv => whnf) | ((with_reducible refine Br.df ?_ ?_); (focus (first | assumption | omega)); conv => whnf))
          | ((with_reducible refine Ar.i64 ?_ ?_); (focus omega); conv => whnf)
          | ((with_reducible refine Ix.ad ?_ ?_ ?_); (focus (exact Rd.ad (by assumption))); (focus (omega)); conv => whnf)
          | ((apply LdN.rd); (focus ((repeat (assumption)); done)); (focus rfl); (focus rfl); (focus (omega)); conv => whnf)
          | ((with_reducible refine Dr.by (id := 4) Tryd.tysOk rfl [(0, 0), (1, 0), (2, 0), (3, 0), (5, 0), (6, 0), (7, 0), (8, 0), (4, 1), (9, 1), (10, 3), (11, 0)] ?_ ?_); (focus kernel_rfl); conv => whnf)
          | ((with_reducible refine Cl.is (hc _ _ _) ?_); conv => whnf))
        all_goals first | exact ⟨j - 1, by kernel_rfl, by (exact Ent.rfl), ⟨by omega, hnx⟩, by omega⟩ | (exfalso; omega)
    · have hy : sortT xs := fun i hi => g2 i (by omega) hi
      rw [decide_eq_true hy]
      clear g2
      conv => whnf
      repeat' ((with_reducible refine Br.df ?_ ?_); (focus (first | assumption | omega)); conv => whnf)
      all_goals (refine Is.ent ?_ ?_; (focus (exact Ent.rfl)); (exact Is.rfl))
  refine con_of Tryd.tysOk Tryd.func11 rfl rfl ?_
  conv => whnf
  repeat' ((with_reducible refine Cl.is (key _ (by ((repeat (assumption)); done))) ?_); conv => whnf)
  all_goals (refine Is.ent ?_ ?_; (focus (exact Ent.rfl)); (exact Is.rfl))
abbrev mrQ (x y : Mrk) : Prop := x.t = y.t ∧ x.s = y.s ∧ x.a = y.a ∧ x.b = y.b ∧ x.n = y.n ∧ x.d = y.d
theorem Tryd.refMrSame (a a' : Option Addr) (c c' : Nat) (xs ys : List Mrk) (L : List HP) (hl : xs.length ≤ 100000) (hr : Rd mrE L a xs) (hr' : Rd mrE L a' ys) :
    Con Tryd.prog 12 [.slice a xs.length c, .slice a' ys.length c'] L (Is (.bool (decide (xs = ys))) L) := by
  by_cases hlen : xs.length = ys.length
  · refine con_of Tryd.tysOk Tryd.func12 rfl rfl ?_
    conv => whnf
    repeat' ((with_reducible refine Br.ndf ?_ ?_); (focus (first | assumption | omega)); conv => whnf)
    conv => whnf
    refine Lp.by Tryd.tysOk [5] (fun (k : Nat) => [.int .i64 k]) (fun k => L) (fun k => k ≤ xs.length ∧ ∀ i, i < k → xs.getD i mrE.d = ys.getD i mrE.d) (fun k => xs.length - k) (0) (by kernel_rfl) (by (exact Ent.rfl)) (⟨by omega, fun i hi => by omega⟩) ?_
    rintro k ⟨g1, g2⟩
    conv => whnf
    repeat (intro _; conv => whnf)
    by_cases hk : k < xs.length
    · by_cases he : xs.getD k mrE.d = ys.getD k mrE.d
      · have hq : mrQ (xs.getD k mrE.d) (ys.getD k mrE.d) := mr_eq.2 he
        conv => whnf
        repeat' (first
          | (first | ((with_reducible refine Br.dt ?_ ?_); (focus (first | assumption | omega)); conv => whnf) | ((with_reducible refine Br.ndf ?_ ?_); (focus (first | assumption | omega)); conv => whnf))
          | ((with_reducible refine Ar.i64 ?_ ?_); (focus omega); conv => whnf)
          | ((with_reducible refine Nd.mk ?_ ?_); (focus (first | omega | rfl | assumption | (simp; done))); conv => whnf)
          | ((with_reducible refine Ix.ad ?_ ?_ ?_); (focus (exact Rd.ad (by assumption))); (focus (omega)); conv => whnf)
          | ((with_reducible apply LdN.rdk); (focus ((repeat (assumption)); done)); (focus rfl); (focus rfl); (focus (omega)); conv => whnf)
          | ((with_reducible refine Dr.by (id := 6) Tryd.tysOk rfl [(0, 0), (1, 0), (2, 0), (4, 0), (5, 0), (6, 0), (3, 1), (7, 1), (8, 0)] ?_ ?_); (focus kernel_rfl); conv => whnf))
        all_goals first | exact ⟨k + 1, by kernel_rfl, by (exact Ent.rfl), ⟨by omega, lt_step g2 he⟩, by omega⟩ | (exfalso; omega)
      · have hq : ¬ mrQ (xs.getD k mrE.d) (ys.getD k mrE.d) := fun h => he (mr_eq.1 h)
        have hno : ¬ xs = ys := fun h => he (by rw [h])
        rw [decide_eq_false hno]
        clear g2
        conv => whnf
        repeat' (first
          | (first | ((with_reducible refine Br.dt ?_ ?_); (focus (first | assumption | omega)); conv => whnf) | ((with_reducible refine Br.ndt ?_ ?_); (focus (first | assumption | omega)); conv => whnf))
          | ((with_reducible refine Nd.mk ?_ ?_); (focus (first | omega | rfl | assumption | (simp; done))); conv => whnf)
          | ((with_reducible refine Ix.ad ?_ ?_ ?_); (focus (exact Rd.ad (by assumption))); (focus (omega)); conv => whnf)
          | ((with_reducible apply LdN.rdk); (focus ((repeat (assumption)); done)); (focus rfl); (focus rfl); (focus (omega)); conv => whnf)
          | ((with_reducible refine Dr.by (id := 6) Tryd.tysOk rfl [(0, 0), (1, 0), (2, 0), (4, 0), (5, 0), (6, 0), (3, 1), (7, 1), (8, 0)] ?_ ?_); (focus kernel_rfl); conv => whnf))
        all_goals first | (refine Is.ent ?_ ?_; (focus (exact Ent.rfl)); (exact Is.rfl)) | (exfalso; omega)
    · have hy : xs = ys := ext_getD mrE.d hlen (fun i hi => g2 i (by omega))
      rw [decide_eq_true hy]
      clear g2 hy
      conv => whnf
      repeat' ((with_reducible refine Br.df ?_ ?_); (focus (first | assumption | omega)); conv => whnf)
      all_goals (refine Is.ent ?_ ?_; (focus (exact Ent.rfl)); (exact Is.rfl))
  · have hno : ¬ xs = ys := fun h => hlen (by rw [h])
    rw [decide_eq_false hno]
    clear hno
    refine con_of Tryd.tysOk Tryd.func12 rfl rfl ?_
    conv => whnf
    repeat' ((with_reducible refine Br.ndt ?_ ?_); (focus (first | assumption | omega)); conv => whnf)
    all_goals first | (refine Is.ent ?_ ?_; (focus (exact Ent.rfl)); (exact Is.rfl)) | (exfalso; omega)
end Go.Proofs
