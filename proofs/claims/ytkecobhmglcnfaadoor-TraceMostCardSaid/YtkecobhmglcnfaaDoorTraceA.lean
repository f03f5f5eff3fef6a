/- Marks: names, which may be written, which are picked: contracts. -/
import Derived.Test.YtkecobhmglcnfaaDoorLib
import Derived.Test.YtkecobhmglcnfaaDoorSpanB
set_option linter.all false
namespace Go.Proofs
open Go.Eng
open Classical
set_option linter.unusedVariables false
set_option maxRecDepth 100000
set_option maxHeartbeats 2000000
abbrev z64 (n : Int) : Value := .int .i64 n
abbrev z8 (n : Int) : Value := .int .u8 n
abbrev Z64 (n : Int) : Prop := -9223372036854775808 ≤ n ∧ n ≤ 9223372036854775807
def soE : Enc Int := ⟨1, fun n => [z8 n], 0, fun _ => rfl, by omega, fun _ => rfl⟩
/-- a mark -/
structure Mrk where
  t : Int
  s : Int
  a : Int
  b : Int
  n : Int
  d : ByteArray
def mrE : Enc Mrk := ⟨6, fun x => [z64 x.t, z8 x.s, z64 x.a, z64 x.b, z64 x.n, .string x.d], ⟨0, 0, 0, 0, 0, .empty⟩, fun _ => rfl, by omega, fun _ => rfl⟩
abbrev mrC (x : Mrk) : List Value := [z64 x.t, z8 x.s, z64 x.a, z64 x.b, z64 x.n, .string x.d]
abbrev mrV (x : Mrk) : Value := .agg #[z64 x.t, z8 x.s, z64 x.a, z64 x.b, z64 x.n, .string x.d]
structure MrB (x : Mrk) : Prop where
  t : Z64 x.t
  s : 0 ≤ x.s ∧ x.s ≤ 255
  a : Z64 x.a
  b : Z64 x.b
  n : Z64 x.n
theorem mr_eq {x y : Mrk} : (x.t = y.t ∧ x.s = y.s ∧ x.a = y.a ∧ x.b = y.b ∧ x.n = y.n ∧ x.d = y.d) ↔ x = y := by
  cases x; cases y; simp
/-! which sorts -/
theorem Tryd.trcAmong (n : Int) (a : Option Addr) (c : Nat) (xs : List Int) (L : List HP) (hl : xs.length ≤ 1000) (hr : Rd soE L a xs) : Con Tryd.prog 7 [z8 n, .slice a xs.length c] L (Is (.bool (decide (n ∈ xs))) L) := by
  refine con_of Tryd.tysOk Tryd.func7 rfl rfl ?_
  conv => whnf
  repeat' skip
  conv => whnf
  refine Lp.by Tryd.tysOk [5] (fun (k : Nat) => [.int .i64 k]) (fun k => L) (fun k => k ≤ xs.length ∧ ∀ i, i < k → ¬ xs.getD i soE.d = n) (fun k => xs.length - k) (0) (by kernel_rfl) (by (exact Ent.rfl)) (⟨by omega, fun i hi => by omega⟩) ?_
  rintro k ⟨g1, g2⟩
  conv => whnf
  repeat (intro _; conv => whnf)
  by_cases hk : k < xs.length
  · by_cases he : xs.getD k soE.d = n
    · have hm : n ∈ xs := by rw [← he]; exact getD_mem hk
      rw [decide_eq_true hm]
      clear g2
      conv => whnf
      repeat' (first
        | ((with_reducible refine Br.dt ?_ ?_); (focus (first | assumption | omega)); conv => whnf)
        | ((with_reducible refine Ix.ad ?_ ?_ ?_); (focus (exact Rd.ad (by assumption))); (focus (omega)); conv => whnf)
        | ((with_reducible apply Ld.rdk0); (focus ((repeat (assumption)); done)); (focus rfl); (focus (omega)); (focus rfl); conv => whnf))
      all_goals (refine Is.ent ?_ ?_; (focus (exact Ent.rfl)); (exact Is.rfl))
    · conv => whnf
      repeat' (first
        | (first | ((with_reducible refine Br.dt ?_ ?_); (focus (first | assumption | omega)); conv => whnf) | ((with_reducible refine Br.df ?_ ?_); (focus (first | assumption | omega)); conv => whnf))
        | ((with_reducible refine Ar.i64 ?_ ?_); (focus omega); conv => whnf)
        | ((with_reducible refine Ix.ad ?_ ?_ ?_); (focus (exact Rd.ad (by assumption))); (focus (omega)); conv => whnf)
        | ((with_reducible apply Ld.rdk0); (focus ((repeat (assumption)); done)); (focus rfl); (focus (omega)); (focus rfl); conv => whnf))
      all_goals exact ⟨k + 1, by kernel_rfl, by (exact Ent.rfl), ⟨by omega, lt_step g2 he⟩, by omega⟩
  · have hm : ¬ n ∈ xs := fun h => by
      obtain ⟨i, hi, rfl⟩ := List.getElem_of_mem h
      exact g2 i (by omega) (by simp [List.getD, hi])
    rw [decide_eq_false hm]
    clear g2
    conv => whnf
    repeat' ((with_reducible refine Br.df ?_ ?_); (focus (first | assumption | omega)); conv => whnf)
    all_goals (refine Is.ent ?_ ?_; (focus (exact Ent.rfl)); (exact Is.rfl))
theorem Tryd.trcIndex (n : Int) (a : Option Addr) (c : Nat) (xs : List Int) (L : List HP) (hl : xs.length ≤ 1000) (hr : Rd soE L a xs) : Con Tryd.prog 47 [.slice a xs.length c, z8 n] L (Is (z64 (idxF (fun x => decide (n = x)) xs)) L) := by
  refine con_of Tryd.tysOk Tryd.func47 rfl rfl ?_
  conv => whnf
  repeat' skip
  conv => whnf
  refine Lp.by Tryd.tysOk [8] (fun (k : Nat) => [.int .i64 k]) (fun k => L) (fun k => k ≤ xs.length ∧ ∀ i, i < k → (decide (n = xs.getD i soE.d)) = false) (fun k => xs.length - k) (0) (by kernel_rfl) (by (exact Ent.rfl)) (⟨by omega, fun i hi => by omega⟩) ?_
  rintro k ⟨g1, g2⟩
  conv => whnf
  repeat (intro _; conv => whnf)
  by_cases hk : k < xs.length
  · by_cases he : n = xs.getD k soE.d
    · rw [idxF_at soE.d (fun x => decide (n = x)) xs k hk (decide_eq_true he) g2]
      clear g2
      conv => whnf
      repeat' (first
        | ((with_reducible refine Br.dt ?_ ?_); (focus (first | assumption | omega)); conv => whnf)
        | ((with_reducible refine Ix.ad ?_ ?_ ?_); (focus (exact Rd.ad (by assumption))); (focus (omega)); conv => whnf)
        | ((with_reducible apply Ld.rdk0); (focus ((repeat (assumption)); done)); (focus rfl); (focus (omega)); (focus rfl); conv => whnf))
      all_goals (refine Is.ent ?_ ?_; (focus (exact Ent.rfl)); (exact Is.rfl))
    · conv => whnf
      repeat' (first
        | (first | ((with_reducible refine Br.dt ?_ ?_); (focus (first | assumption | omega)); conv => whnf) | ((with_reducible refine Br.df ?_ ?_); (focus (first | assumption | omega)); conv => whnf))
        | ((with_reducible refine Ar.i64 ?_ ?_); (focus omega); conv => whnf)
        | ((with_reducible refine Ix.ad ?_ ?_ ?_); (focus (exact Rd.ad (by assumption))); (focus (omega)); conv => whnf)
        | ((with_reducible apply Ld.rdk0); (focus ((repeat (assumption)); done)); (focus rfl); (focus (omega)); (focus rfl); conv => whnf))
      all_goals exact ⟨k + 1, by kernel_rfl, by (exact Ent.rfl), ⟨by omega, lt_step g2 (decide_eq_false he)⟩, by omega⟩
  · rw [idxF_no soE.d (fun x => decide (n = x)) xs (fun i hi => g2 i (by omega))]
    clear g2
    conv => whnf
    repeat' ((with_reducible refine Br.df ?_ ?_); (focus (first | assumption | omega)); conv => whnf)
    all_goals (refine Is.ent ?_ ?_; (focus (exact Ent.rfl)); (exact Is.rfl))
theorem Tryd.trcContains (n : Int) (a : Option Addr) (c : Nat) (xs : List Int) (L : List HP) (hl : xs.length ≤ 1000) (hr : Rd soE L a xs) : Con Tryd.prog 27 [.slice a xs.length c, z8 n] L (Is (.bool (decide (n ∈ xs))) L) := by
  have hix := fun L h => Tryd.trcIndex n a c xs L hl h
  have hs := idxF_spec soE.d (fun x => decide (n = x)) xs
  have hm : n ∈ xs ↔ 0 ≤ idxF (fun x => decide (n = x)) xs := by
    rcases hs with ⟨h1, h2⟩ | ⟨m, h1, h2, h3, h4⟩
    · rw [h1]
      refine ⟨fun h => ?_, fun h => by omega⟩
      obtain ⟨i, hi, rfl⟩ := List.getElem_of_mem h
      have h3 := h2 i hi
      simp [List.getD, hi] at h3
    · rw [h2]
      refine ⟨fun _ => by omega, fun _ => ?_⟩
      rw [of_decide_eq_true h3]
      exact getD_mem h1
  rw [decide_eq_decide.2 hm]
  refine con_of Tryd.tysOk Tryd.func27 rfl rfl ?_
  conv => whnf
  repeat' ((with_reducible refine Cl.is (hix _ (by ((repeat (assumption)); done))) ?_); conv => whnf)
  all_goals (refine Is.ent ?_ ?_; (focus (exact Ent.rfl)); (exact Is.rfl))
theorem Tryd.trcOf1 (b : Nat) (m : Mrk) (a : Option Addr) (c : Nat) (xs : List Int) (L : List HP) (hl : xs.length ≤ 1000) (hr : Rd soE L a xs) :
    Con Tryd.prog 26 [mrV m, .pointer (some ⟨b, 0, none⟩)] (ptc b 23 [.slice a xs.length c] :: L) (Is (.bool (decide (m.s ∈ xs))) (ptc b 23 [.slice a xs.length c] :: L)) := by
  have hi := fun L h => Tryd.trcContains m.s a c xs L hl h
  refine con_of Tryd.tysOk Tryd.func26 rfl rfl ?_
  conv => whnf
  repeat' (first
    | ((with_reducible refine Nc.go' (fun _ => ?_)); conv => whnf)
    | (first | (refine Ld.at 0 rfl rfl ?_; conv => whnf) | (refine Ld.at 1 rfl rfl ?_; conv => whnf))
    | ((with_reducible refine Cl.is (hi _ (by ((repeat (first | assumption | apply Rd.cons)); done))) ?_); conv => whnf))
  all_goals (refine Is.ent ?_ ?_; (focus (refine FEnt.ent ?_; (repeat (first | exact FEnt.rfl | (refine FEnt.at 1 rfl ?_; (try simp only [List.eraseIdx_cons_zero, List.eraseIdx_cons_succ, List.eraseIdx_zero, List.tail_cons])) | refine FEnt.drop ?_)); done)); (exact Is.rfl))
theorem filter_yes {α : Type} {p : α → Bool} {d : α} {xs : List α} {k : Nat} (hk : k < xs.length) (h : p (xs.getD k d) = true) : (xs.take (k + 1)).filter p = (xs.take k).filter p ++ [xs.getD k d] := by
  rw [List.take_add_one, List.getElem?_eq_getElem hk, List.filter_append]
  have e : xs.getD k d = xs[k] := by simp [List.getD, hk]
  rw [e] at h ⊢
  simp [h]
theorem filter_not {α : Type} {p : α → Bool} {d : α} {xs : List α} {k : Nat} (hk : k < xs.length) (h : p (xs.getD k d) = false) : (xs.take (k + 1)).filter p = (xs.take k).filter p := by
  rw [List.take_add_one, List.getElem?_eq_getElem hk, List.filter_append]
  have e : xs.getD k d = xs[k] := by simp [List.getD, hk]
  rw [e] at h
  simp [h]
theorem Tryd.trcPick (a : Option Addr) (c : Nat) (xs : List Mrk) (g : FuncId) (cs : List Value) (p : Mrk → Bool) (L : List HP) (hl : xs.length ≤ 100000) (hr : Rd mrE L a xs)
    (hg : ∀ x M, Con Tryd.prog g (mrV x :: cs) (M ++ L) (Is (.bool (p x)) (M ++ L))) :
    Con Tryd.prog 25 [.slice a xs.length c, .func (.func g) #[] cs.toArray] L (New mrE 29 (xs.filter p) L) := by
  refine con_of Tryd.tysOk Tryd.func25 rfl rfl ?_
  conv => whnf
  repeat' skip
  conv => whnf
  refine Lp.by2 Tryd.tysOk [10, 5] (fun (k : Nat) (P : Option Addr × Nat × List Mrk) => [.int .i64 k, .slice P.1 P.2.2.length P.2.1]) (fun k P => own mrE 29 P.1 P.2.1 P.2.2 :: L) (fun k P => k ≤ xs.length ∧ (P.2.2 = (xs.take k).filter p ∧ P.2.2.length ≤ P.2.1 ∧ Ad P.1 P.2.2.length)) (fun k P => xs.length - k) (0) (((none, 0, []) : Option Addr × Nat × List Mrk)) (by kernel_rfl) (by (exact Ent.nil)) (⟨by omega, ⟨rfl, by simp, fun h => (h rfl).elim⟩⟩) ?_
  rintro k ⟨a2, c2, ys⟩ ⟨g1, ⟨p1, p2, p3⟩⟩
  conv => whnf
  repeat (intro _; conv => whnf)
  dsimp only at p1 p2 p3
  have hyl : ys.length ≤ k := by rw [p1]; exact Nat.le_trans (List.length_filter_le _ _) (by rw [List.length_take]; omega)
  by_cases hk : k < xs.length
  · have hgb := fun M => hg (xs.getD k mrE.d) M
    cases hb : p (xs.getD k mrE.d) with
    | true =>
      have e1 := filter_yes (p := p) hk hb
      rw [← p1] at e1
      rw [hb] at hgb
      conv => whnf
      repeat' (first
        | (first | ((with_reducible refine Br.tt ?_); conv => whnf) | ((with_reducible refine Br.dt ?_ ?_); (focus (first | assumption | omega)); conv => whnf))
        | ((with_reducible refine Ar.i64 ?_ ?_); (focus omega); conv => whnf)
        | ((with_reducible refine Nd.mk ?_ ?_); (focus (first | omega | rfl | assumption | (simp; done))); conv => whnf)
        | ((with_reducible refine Nc.go' (fun _ => ?_)); conv => whnf)
        | ((with_reducible refine Ix.ad ?_ ?_ ?_); (focus (exact Rd.ad (by assumption))); (focus (omega)); conv => whnf)
        | (first | ((with_reducible apply LdN.rdk); (focus ((repeat (first | assumption | apply Rd.cons)); done)); (focus rfl); (focus rfl); (focus (omega)); conv => whnf) | (refine LdN.at 0 rfl (by first | exact Nat.le_of_ble_eq_true rfl | (simp; done)) ?_; conv => whnf))
        | (refine St.at 0 rfl (by first | exact Nat.le_of_ble_eq_true rfl | (simp; done)) rfl ?_; conv => whnf)
        | ((with_reducible refine (?_ : Sm _ (Builtin.append_ _ _ _) _ _)); (((with_reducible apply (Sm.appAt (E := mrE) (et := 29) Tryd.tysOk 2)); (focus rfl)); (rotate_left; (focus (exact Rd.ptc 0 rfl [_] rfl)); rotate_right; (focus rfl)); (focus rfl); (focus rfl); (focus rfl); (focus rfl); (focus rfl); (focus rfl); (focus ((simp only [List.length_append, List.length_cons, List.length_nil]); omega)); (intro _ _ _ _); conv => whnf))
        | (((rw [forceL_eq]); (refine Cl.is (hgb [_, _]) ?_)); conv => whnf))
      rename_i a5 c5 hc5 had5
      exact ⟨k + 1, (a5, c5, _), by kernel_rfl, by (try dsimp only); (refine FEnt.ent ?_; (repeat (first | exact FEnt.rfl | (refine FEnt.at 0 rfl ?_; (try simp only [List.eraseIdx_cons_zero, List.eraseIdx_cons_succ, List.eraseIdx_zero, List.tail_cons])) | refine FEnt.drop ?_)); done), ⟨by omega, ⟨e1.symm, hc5, had5⟩⟩, by omega⟩
    | false =>
      have e1 := filter_not (p := p) hk hb
      rw [← p1] at e1
      rw [hb] at hgb
      conv => whnf
      repeat' (first
        | (first | ((with_reducible refine Br.ff ?_); conv => whnf) | ((with_reducible refine Br.dt ?_ ?_); (focus (first | assumption | omega)); conv => whnf))
        | ((with_reducible refine Ar.i64 ?_ ?_); (focus omega); conv => whnf)
        | ((with_reducible refine Nd.mk ?_ ?_); (focus (first | omega | rfl | assumption | (simp; done))); conv => whnf)
        | ((with_reducible refine Nc.go' (fun _ => ?_)); conv => whnf)
        | ((with_reducible refine Ix.ad ?_ ?_ ?_); (focus (exact Rd.ad (by assumption))); (focus (omega)); conv => whnf)
        | (first | ((with_reducible apply LdN.rdk); (focus ((repeat (first | assumption | apply Rd.cons)); done)); (focus rfl); (focus rfl); (focus (omega)); conv => whnf) | (refine LdN.at 0 rfl (by first | exact Nat.le_of_ble_eq_true rfl | (simp; done)) ?_; conv => whnf))
        | (refine St.at 0 rfl (by first | exact Nat.le_of_ble_eq_true rfl | (simp; done)) rfl ?_; conv => whnf)
        | (((rw [forceL_eq]); (refine Cl.is (hgb [_, _]) ?_)); conv => whnf))
      all_goals exact ⟨k + 1, (a2, c2, ys), by kernel_rfl, by (try dsimp only); (refine FEnt.ent ?_; (repeat (first | exact FEnt.rfl | (refine FEnt.at 1 rfl ?_; (try simp only [List.eraseIdx_cons_zero, List.eraseIdx_cons_succ, List.eraseIdx_zero, List.tail_cons])) | refine FEnt.drop ?_)); done), ⟨by omega, ⟨e1.symm, p2, p3⟩⟩, by omega⟩
  · have e : k = xs.length := by omega
    subst e
    rw [List.take_length] at p1
    subst p1
    conv => whnf
    repeat' ((with_reducible refine Br.df ?_ ?_); (focus (first | assumption | omega)); conv => whnf)
    all_goals exact New.of rfl p2 p3 (by (exact Ent.rfl))
end Go.Proofs
