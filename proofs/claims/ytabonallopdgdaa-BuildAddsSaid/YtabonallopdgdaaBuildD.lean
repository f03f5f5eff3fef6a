/- Tables of wishes, by the document: wishes, sums: contracts. -/
import Derived.Test.YtabonallopdgdaaBuildB
set_option linter.all false
namespace Go.Proofs
open Go.Eng
open Classical
set_option linter.unusedVariables false
set_option maxRecDepth 100000
set_option maxHeartbeats 2000000
theorem Try.bldRef (w : Wsh) (L : List HP) : Con Try.prog 6 [wsV w] L (Is (wsV w) L) := by
  refine con_of Try.tysOk Try.func6 rfl rfl ?_
  conv => whnf
  repeat' (first
    | ((with_reducible refine Nd.mk ?_ ?_); (focus (first | omega | rfl | assumption | (simp; done))); conv => whnf)
    | ((with_reducible refine Nc.go' (fun _ => ?_)); conv => whnf)
    | (refine Ld.at 1 rfl rfl ?_; conv => whnf)
    | (refine LdN.at 0 rfl (by first | exact Nat.le_of_ble_eq_true rfl | (simp; done)) ?_; conv => whnf)
    | (refine St.at 0 rfl (by first | exact Nat.le_of_ble_eq_true rfl | (simp; done)) rfl ?_; conv => whnf))
  all_goals (refine Is.ent ?_ ?_; (focus (refine FEnt.ent ?_; (repeat (first | exact FEnt.rfl | refine FEnt.drop ?_)); done)); (exact Is.rfl))
theorem ringN_pos (n : Int) : 0 < ringN n ↔ ringK n := by
  unfold ringN
  split
  · rename_i h
    exact ⟨fun _ => h, fun _ => by omega⟩
  · rename_i h
    exact ⟨fun h' => by omega, fun h' => (h h').elim⟩
theorem Try.refMayT (w : Wsh) (L : List HP) (R : Int) (K : Prop) (hk : K) (hR : 0 < R ∧ R ≤ 130) (hs : ∀ L, Con Try.prog 21 [n64 w.r] L (Is (n64 R) L)) :
    Con Try.prog 8 [wsV w] L (Is (.bool (decide (mayP w R K))) L) := by
  refine con_of Try.tysOk Try.func8 rfl rfl ?_
  conv => whnf
  repeat' (first
    | (first | ((with_reducible refine Br.tt ?_); conv => whnf) | ((with_reducible refine Br.ff ?_); conv => whnf) | ((with_reducible refine Br.dt ?_ ?_); (focus (first | assumption | omega)); conv => whnf))
    | ((with_reducible refine Nc.go' (fun _ => ?_)); conv => whnf)
    | (refine Ld.at 0 rfl rfl ?_; conv => whnf)
    | ((with_reducible refine Cl.is (hs _) ?_); conv => whnf)
    | ((with_reducible refine Br.ds (fun _ => ?_) (fun _ => ?_) ) <;> (conv => whnf)))
  all_goals (refine Is.ent (by (refine FEnt.ent ?_; (repeat (first | exact FEnt.rfl | refine FEnt.drop ?_)); done)) ?_; first | exact Is.ff (fun h => by have h1 := h.1.1; have h2 := h.1.2.1; have h3 := h.1.2.2.2; have h4 := h.2.1; have h5 := h.2.2; omega) | exact Is.dec ⟨fun g => ⟨⟨by omega, by omega, hk, by omega⟩, ⟨by omega, by omega, by omega, by omega⟩, by omega, by omega, by omega, by omega⟩, fun h => by have h5 := h.2.2; omega⟩)
theorem Try.refMayF (w : Wsh) (L : List HP) (R : Int) (K : Prop) (hk : ¬ K) (hR : ¬ 0 < R) (hs : ∀ L, Con Try.prog 21 [n64 w.r] L (Is (n64 R) L)) :
    Con Try.prog 8 [wsV w] L (Is (.bool (decide (mayP w R K))) L) := by
  refine con_of Try.tysOk Try.func8 rfl rfl ?_
  conv => whnf
  repeat' (first
    | (first | ((with_reducible refine Br.tt ?_); conv => whnf) | ((with_reducible refine Br.ff ?_); conv => whnf) | ((with_reducible refine Br.df ?_ ?_); (focus (first | assumption | omega)); conv => whnf))
    | ((with_reducible refine Nc.go' (fun _ => ?_)); conv => whnf)
    | (refine Ld.at 0 rfl rfl ?_; conv => whnf)
    | ((with_reducible refine Cl.is (hs _) ?_); conv => whnf)
    | ((with_reducible refine Br.ds (fun _ => ?_) (fun _ => ?_) ) <;> (conv => whnf)))
  all_goals exact Is.ent (by (refine FEnt.ent ?_; (repeat (first | exact FEnt.rfl | refine FEnt.drop ?_)); done)) (Is.ff (fun h => hk h.1.2.2.1))
theorem Try.refMay (w : Wsh) (L : List HP) : Con Try.prog 8 [wsV w] L (Is (.bool (decide (mayW w))) L) := by
  by_cases hk : ringK w.r
  · exact con_iff (p := mayP w (ringN w.r) (ringK w.r)) (q := mayW w) Iff.rfl (Try.refMayT w L (ringN w.r) (ringK w.r) hk ⟨(ringN_pos _).2 hk, (ringN_bd _).2⟩ (fun L => Try.refRing w.r L))
  · exact con_iff (p := mayP w (ringN w.r) (ringK w.r)) (q := mayW w) Iff.rfl (Try.refMayF w L (ringN w.r) (ringK w.r) hk (fun h => hk ((ringN_pos _).1 h)) (fun L => Try.refRing w.r L))
theorem Try.refClient (w : Wsh) (b f m h : Int) (L : List HP) (hw : mayW w) : Con Try.prog 28 [wsV w, n64 b, n64 f, n64 m, n64 h] L (Is (clV { cliW w with b := b, f := f, m := m, h := h }) L) := by
  have hR := ringN_bd w.r
  have hs := fun L => Try.refRing w.r L
  have hz := hw.1
  have hz1 : 32 ≤ w.z ∧ w.z ≤ 1024 := ⟨hz.1, hz.2.1⟩
  clear hz hw
  unfold cliW clV
  generalize ringN w.r = R at *
  refine con_of Try.tysOk Try.func28 rfl rfl ?_
  conv => whnf
  repeat' (first
    | ((with_reducible refine Ar.i64 ?_ ?_); (focus omega); conv => whnf)
    | ((with_reducible refine Nd.mk ?_ ?_); (focus (first | omega | rfl | assumption | (simp; done))); conv => whnf)
    | ((with_reducible refine Nc.go' (fun _ => ?_)); conv => whnf)
    | (refine Ld.at 1 rfl rfl ?_; conv => whnf)
    | (refine LdN.at 0 rfl (by first | exact Nat.le_of_ble_eq_true rfl | (simp; done)) ?_; conv => whnf)
    | (refine St.at 0 rfl (by first | exact Nat.le_of_ble_eq_true rfl | (simp; done)) rfl ?_; conv => whnf)
    | ((with_reducible refine Dr.by (id := 1) Try.tysOk rfl [(0, 0), (1, 0), (3, 0), (5, 0), (7, 0), (11, 0), (13, 0), (15, 0), (16, 0), (17, 0), (18, 0), (2, 1), (4, 1), (6, 1), (8, 1), (9, 1), (10, 0), (12, 1), (14, 1), (19, 1), (20, 0), (21, 3)] ?_ ?_); (focus kernel_rfl); conv => whnf)
    | ((with_reducible refine CD.is (fun M => hs _) ?_); conv => whnf))
  all_goals (refine Is.ent ?_ ?_; (focus (refine FEnt.ent ?_; (repeat (first | exact FEnt.rfl | refine FEnt.drop ?_)); done)); (exact Is.rfl))
abbrev qU (w : Wsh) : Int := w.q
theorem sumB_q (xs : List Wsh) : ∀ k, k ≤ xs.length → sumB qF xs k = 4 * sumB qU xs k := by
  intro k
  induction k with
  | zero => intro _; rw [sumB_zero, sumB_zero]; rfl
  | succ k ih =>
    intro hk
    rw [sumB_succ (by omega), sumB_succ (by omega), ih (by omega)]
    simp only [qF, qU]
    omega
theorem Try.refSums (a : Option Addr) (c : Nat) (xs : List Wsh) (i : Nat) (L : List HP) (hl : xs.length ≤ 8) (hm : ∀ x ∈ xs, mayW x) (hi : i ≤ xs.length) (hr : Rd wsE L a xs) :
    Con Try.prog 27 [.slice a xs.length c, .int .i64 i] L (Is (wsV ⟨sumB zF xs i, 0, sumB qU xs i, 0, sumB sF xs i, sumB pF xs i⟩) L) := by
  have hmz : ∀ x ∈ xs, (0 ≤ zF x ∧ zF x ≤ 1024) ∧ (0 ≤ sF x ∧ sF x ≤ 64) ∧ (0 ≤ pF x ∧ pF x ≤ 4096) ∧ (0 ≤ qU x ∧ qU x ≤ 16) := fun x hx => by
    obtain ⟨⟨a1, a2, -, -⟩, ⟨a3, a4, -, -⟩, a5, a6, a7, a8⟩ := hm x hx
    simp only [zF, sF, pF, qU]
    omega
  refine con_of Try.tysOk Try.func27 rfl rfl ?_
  conv => whnf
  repeat' (first
    | ((with_reducible refine Nd.mk ?_ ?_); (focus (first | omega | rfl | assumption | (simp; done))); conv => whnf)
    | ((with_reducible refine Nc.go' (fun _ => ?_)); conv => whnf)
    | (refine St.at 0 rfl (by first | exact Nat.le_of_ble_eq_true rfl | (simp; done)) rfl ?_; conv => whnf))
  rename_i b4 b5
  conv => whnf
  refine Lp.by2 Try.tysOk [6] (fun (k : Nat) (V : Int × Int × Int × Int) => [.int .i64 k]) (fun k V => ptc b5 25 [n64 V.1, n64 0, n64 V.2.1, n64 0, n64 V.2.2.1, n64 V.2.2.2] :: ptc b4 25 [n64 0, n64 0, n64 0, n64 0, n64 0, n64 0] :: L) (fun k V => k ≤ i ∧ V.1 = sumB zF xs k ∧ V.2.1 = sumB qU xs k ∧ V.2.2.1 = sumB sF xs k ∧ V.2.2.2 = sumB pF xs k) (fun k V => i - k) (0) (((0, 0, 0, 0) : Int × Int × Int × Int)) (by kernel_rfl) (by (exact Ent.rfl)) (⟨by omega, by rw [sumB_zero], by rw [sumB_zero], by rw [sumB_zero], by rw [sumB_zero]⟩) ?_
  rintro k V ⟨h1, h2, h3, h4, h5⟩
  conv => whnf
  repeat (intro _; conv => whnf)
  have hz := sumB_bd (f := zF) (fun x hx => (hmz x hx).1) (by omega) k (by omega)
  have hs := sumB_bd (f := sF) (fun x hx => (hmz x hx).2.1) (by omega) k (by omega)
  have hp := sumB_bd (f := pF) (fun x hx => (hmz x hx).2.2.1) (by omega) k (by omega)
  have hq := sumB_bd (f := qU) (fun x hx => (hmz x hx).2.2.2) (by omega) k (by omega)
  by_cases hk : k < i
  · have hwb := hmz _ (getD_mem (d := wsE.d) (show k < xs.length by omega))
    have ez := sumB_succ (f := zF) (show k < xs.length by omega)
    have es := sumB_succ (f := sF) (show k < xs.length by omega)
    have ep := sumB_succ (f := pF) (show k < xs.length by omega)
    have eq := sumB_succ (f := qU) (show k < xs.length by omega)
    simp only [zF, sF, pF, qU] at ez es ep eq hwb hz hs hp hq h2 h3 h4 h5
    clear hmz hm
    conv => whnf
    repeat' (first
      | ((with_reducible refine Br.dt ?_ ?_); (focus (first | assumption | omega)); conv => whnf)
      | ((with_reducible refine Ar.i64 ?_ ?_); (focus omega); conv => whnf)
      | ((with_reducible refine Nd.mk ?_ ?_); (focus (first | omega | rfl | assumption | (simp; done))); conv => whnf)
      | ((with_reducible refine Ix.ad ?_ ?_ ?_); (focus (exact Rd.ad (by assumption))); (focus (omega)); conv => whnf)
      | (first | ((first | (with_reducible apply Ld.rdk) | (with_reducible apply Ld.rdk0)); (focus ((repeat (first | assumption | apply Rd.cons)); done)); (focus rfl); (focus (omega)); (focus rfl); conv => whnf) | (refine Ld.at 0 rfl rfl ?_; conv => whnf))
      | (refine St.at 0 rfl (by first | exact Nat.le_of_ble_eq_true rfl | (simp; done)) rfl ?_; conv => whnf)
      | ((with_reducible refine Dr.by (id := 5) Try.tysOk rfl [(0, 0), (2, 0), (3, 0), (4, 0), (5, 0), (1, 1), (6, 1), (7, 0), (8, 0), (9, 3)] ?_ ?_); (focus kernel_rfl); conv => whnf)
      | ((with_reducible refine Dr.by (id := 6) Try.tysOk rfl [(0, 0), (2, 0), (3, 0), (4, 0), (5, 0), (1, 1), (6, 1), (7, 0), (8, 0), (9, 3)] ?_ ?_); (focus kernel_rfl); conv => whnf)
      | ((with_reducible refine Dr.by (id := 7) Try.tysOk rfl [(0, 0), (2, 0), (3, 0), (4, 0), (5, 0), (1, 1), (6, 1), (7, 0), (8, 0), (9, 3)] ?_ ?_); (focus kernel_rfl); conv => whnf)
      | ((with_reducible refine Dr.by (id := 8) Try.tysOk rfl [(0, 0), (2, 0), (3, 0), (4, 0), (5, 0), (1, 1), (6, 1), (7, 0), (8, 0), (9, 3)] ?_ ?_); (focus kernel_rfl); conv => whnf))
    all_goals exact ⟨k + 1, (V.1 + (xs.getD k wsE.d).z, V.2.1 + (xs.getD k wsE.d).q, V.2.2.1 + (xs.getD k wsE.d).s, V.2.2.2 + (xs.getD k wsE.d).p), by kernel_rfl, by (exact Ent.rfl), ⟨by omega, by (try dsimp only); rw [h2]; exact ez.symm, by (try dsimp only); rw [h3]; exact eq.symm, by (try dsimp only); rw [h4]; exact es.symm, by (try dsimp only); rw [h5]; exact ep.symm⟩, by omega⟩
  · have e : k = i := by omega
    subst e
    rw [← h2, ← h3, ← h4, ← h5]
    clear hmz hm
    conv => whnf
    repeat' (first
      | ((with_reducible refine Br.df ?_ ?_); (focus (first | assumption | omega)); conv => whnf)
      | ((with_reducible refine Nd.mk ?_ ?_); (focus (first | omega | rfl | assumption | (simp; done))); conv => whnf)
      | (first | (refine LdN.at 0 rfl (by first | exact Nat.le_of_ble_eq_true rfl | (simp; done)) ?_; conv => whnf) | (refine LdN.at 1 rfl (by first | exact Nat.le_of_ble_eq_true rfl | (simp; done)) ?_; conv => whnf))
      | (refine St.at 1 rfl (by first | exact Nat.le_of_ble_eq_true rfl | (simp; done)) rfl ?_; conv => whnf))
    all_goals (refine Is.ent ?_ ?_; (focus (refine FEnt.ent ?_; (repeat (first | exact FEnt.rfl | refine FEnt.drop ?_)); done)); (exact Is.rfl))
/-! tables as numbers -/
def rowN (w : Slt) : List Sp := [(w.1, 1), (w.2.1, 2), (w.2.2, 2)]
def cliN (x : Cli) : List Sp := [(x.b, 2), (x.z, 2), (x.r, 1), (x.t, 2), (x.q, 1), (x.u, 1), (x.m, 1), (x.h, 1), (x.f, 2), (x.s, 1)]
def numW (F : Int) (n : Nat) (ws : List Slt) : List Sp := [(67, 1), (1, 1), (F, 2), ((n : Int), 1)] ++ ws.flatMap rowN
def numS (F : Int) (ws : List Slt) (n : Nat) (ss : List Slt) : List Sp := (numW F ws.length ws ++ [((n : Int), 1)]) ++ ss.flatMap rowN
def numC (F : Int) (ws ss : List Slt) (n : Nat) (xs : List Cli) : List Sp := (numS F ws ss.length ss ++ [((n : Int), 1)]) ++ xs.flatMap cliN
theorem Try.refRow (o f t : Int) (L : List HP) : Con Try.prog 46 [n64 o, n64 f, n64 t] L (New spE 73 (rowN (o, f, t)) L) := by
  refine con_of Try.tysOk Try.func46 rfl rfl ?_
  conv => whnf
  repeat' ((with_reducible refine Nc.go' (fun _ => ?_)); conv => whnf)
  all_goals exact New.of rfl (by show 3 ≤ 3; omega) (fun _ => rfl) (Ent.own (rowN (o, f, t)) rfl (by show 3 ≤ 9223372036854775807; omega))
theorem flat_take {α β : Type} {d : α} {f : α → List β} {xs : List α} {k : Nat} (hk : k < xs.length) : (xs.take (k + 1)).flatMap f = (xs.take k).flatMap f ++ f (xs.getD k d) := by
  rw [List.take_add_one, List.getElem?_eq_getElem hk, List.flatMap_append]
  have e : xs.getD k d = xs[k] := by simp [List.getD, hk]
  rw [e]
  simp
theorem rowN_len (ws : List Slt) : (ws.flatMap rowN).length = 3 * ws.length := by
  induction ws with
  | nil => rfl
  | cons w ws ih => rw [List.flatMap_cons, List.length_append, ih, List.length_cons]; show 3 + _ = _; omega
theorem cliN_len (xs : List Cli) : (xs.flatMap cliN).length = 10 * xs.length := by
  induction xs with
  | nil => rfl
  | cons w ws ih => rw [List.flatMap_cons, List.length_append, ih, List.length_cons]; show 10 + _ = _; omega
theorem Try.refNums (C : Cfg) (L : List HP) (hw : C.ws.length ≤ 1000) (hs : C.ss.length ≤ 1000) (hc : C.xs.length ≤ 1000) (h1 : Rd slE L C.wa C.ws) (h2 : Rd slE L C.sa C.ss) (h3 : Rd clE L C.ca C.xs) :
    Con Try.prog 29 [cfV C] L (New spE 73 (numC C.F C.ws C.ss C.xs.length C.xs) L) := by
  refine con_of Try.tysOk Try.func29 rfl rfl ?_
  conv => whnf
  repeat' (first
    | ((with_reducible refine Nc.go' (fun _ => ?_)); conv => whnf)
    | (refine Ld.at 0 rfl rfl ?_; conv => whnf))
  rename_i b1 b17
  conv => whnf
  refine Lp.by3 Try.tysOk [4, 3] (fun (k : Nat) (zs : List Sp) (x : Option Addr × Nat) => [.int .i64 k, .slice x.1 zs.length x.2]) (fun k zs x => own spE 73 x.1 x.2 zs :: ptc b1 34 (cfC C) :: L) (fun k zs x => k ≤ C.ws.length ∧ zs = numW C.F C.ws.length (C.ws.take k) ∧ zs.length ≤ x.2 ∧ Ad x.1 zs.length) (fun k zs x => C.ws.length - k) (0) (([(67, 1), (1, 1), (C.F, 2), ((C.ws.length : Int), 1)] : List Sp)) (((some ⟨b17, 0, none⟩, 4) : Option Addr × Nat)) (by kernel_rfl) (by (refine FEnt.ent ?_; (repeat (first | exact FEnt.rfl | (refine FEnt.lit 0 rfl rfl rfl rfl ?_; (try simp only [List.eraseIdx_cons_zero, List.eraseIdx_cons_succ, List.eraseIdx_zero, List.tail_cons])))); done)) (⟨by omega, by simp [numW], by simp, fun _ => rfl⟩) ?_
  rintro k zs ⟨a2, c2⟩ ⟨g1, g2, g3, g4⟩
  conv => whnf
  repeat (intro _; conv => whnf)
  dsimp only at g3 g4
  have hzl : zs.length ≤ 4000 := by rw [g2]; unfold numW; rw [List.length_append, rowN_len, List.length_take]; simp; omega
  by_cases hk : k < C.ws.length
  · have hsn : zs ++ rowN (C.ws.getD k slE.d) = numW C.F C.ws.length (C.ws.take (k + 1)) := by
      rw [g2]; unfold numW; rw [flat_take (d := slE.d) hk, List.append_assoc]
    have hrl : (rowN ((C.ws.getD k slE.d).1, (C.ws.getD k slE.d).2.1, (C.ws.getD k slE.d).2.2)).length = 3 := rfl
    conv => whnf
    repeat' (first
      | ((with_reducible refine Br.dt ?_ ?_); (focus (first | assumption | omega)); conv => whnf)
      | ((with_reducible refine Ar.i64 ?_ ?_); (focus omega); conv => whnf)
      | ((with_reducible refine Ix.ad ?_ ?_ ?_); (focus (exact Rd.ad (by assumption))); (focus (omega)); conv => whnf)
      | (first | ((first | (with_reducible apply Ld.rdk) | (with_reducible apply Ld.rdk0)); (focus ((repeat (first | assumption | apply Rd.cons)); done)); (focus rfl); (focus (omega)); (focus rfl); conv => whnf) | (refine Ld.at 1 rfl rfl ?_; conv => whnf))
      | ((with_reducible refine Dr.by (id := 5) Try.tysOk rfl [(0, 0), (1, 0), (3, 0), (7, 0), (9, 0), (13, 0), (15, 0), (2, 1), (4, 0), (5, 0), (6, 1), (8, 1), (10, 0), (11, 0), (12, 1), (14, 1), (16, 0), (17, 0), (18, 1), (19, 4), (20, 3), (21, 0)] ?_ ?_); (focus kernel_rfl); conv => whnf)
      | ((with_reducible refine CN.new (fun M => Try.refRow _ _ _ _) (fun _ _ _ _ => ?_)); conv => whnf)
      | ((with_reducible refine (?_ : Sm _ (Builtin.append_ _ _ _) _ _)); (((with_reducible apply (Sm.appAt (E := spE) (et := 73) Try.tysOk 1)); (focus rfl)); ((focus rfl); (focus ((repeat ((refine Rd.own 0 rfl ?_); (assumption))); done))); (focus rfl); (focus rfl); (focus rfl); (focus rfl); (focus rfl); (focus rfl); (focus (omega)); (intro _ _ _ _); conv => whnf)))
    rename_i a5 c5 hc5 had5 a6 c6 hc6 had6
    exact ⟨k + 1, zs ++ rowN (C.ws.getD k slE.d), (a6, c6), by kernel_rfl, by (refine FEnt.ent ?_; (repeat (first | exact FEnt.rfl | (refine FEnt.at 0 rfl ?_; (try simp only [List.eraseIdx_cons_zero, List.eraseIdx_cons_succ, List.eraseIdx_zero, List.tail_cons])) | (refine FEnt.at 1 rfl ?_; (try simp only [List.eraseIdx_cons_zero, List.eraseIdx_cons_succ, List.eraseIdx_zero, List.tail_cons])) | refine FEnt.drop ?_)); done), ⟨by omega, hsn, hc6, had6⟩, by omega⟩
  · have e : k = C.ws.length := by omega
    subst e
    rw [List.take_length] at g2
    conv => whnf
    repeat' (first
      | ((with_reducible refine Br.df ?_ ?_); (focus (first | assumption | omega)); conv => whnf)
      | ((with_reducible refine Nc.go' (fun _ => ?_)); conv => whnf)
      | (refine Ld.at 1 rfl rfl ?_; conv => whnf)
      | ((with_reducible refine (?_ : Sm _ (Builtin.append_ _ _ _) _ _)); (((with_reducible apply (Sm.appAt (E := spE) (et := 73) Try.tysOk 1)); (focus rfl)); (rotate_left; (focus (exact Rd.ptc 0 rfl [(_, _)] rfl)); rotate_right; (focus rfl)); (focus rfl); (focus rfl); (focus rfl); (focus rfl); (focus rfl); (focus rfl); (focus ((simp only [List.length_append, List.length_cons, List.length_nil]); omega)); (intro _ _ _ _); conv => whnf)))
    rename_i x6 a5 c5 hc5 had5
    have hy0 : zs ++ [((C.ss.length : Int), 1)] = numS C.F C.ws C.ss.length (C.ss.take 0) := by rw [g2]; unfold numS; simp
    conv => whnf
    refine Lp.by3 Try.tysOk [5, 3] (fun (k : Nat) (zs : List Sp) (x : Option Addr × Nat) => [.int .i64 k, .slice x.1 zs.length x.2]) (fun k zs x => own spE 73 x.1 x.2 zs :: ptc b1 34 (cfC C) :: L) (fun k zs x => k ≤ C.ss.length ∧ zs = numS C.F C.ws C.ss.length (C.ss.take k) ∧ zs.length ≤ x.2 ∧ Ad x.1 zs.length) (fun k zs x => C.ss.length - k) (0) ((zs ++ [((C.ss.length : Int), 1)])) (((a5, c5) : Option Addr × Nat)) (by kernel_rfl) (by (refine FEnt.ent ?_; (repeat (first | exact FEnt.rfl | (refine FEnt.at 0 rfl ?_; (try simp only [List.eraseIdx_cons_zero, List.eraseIdx_cons_succ, List.eraseIdx_zero, List.tail_cons])) | (refine FEnt.at 1 rfl ?_; (try simp only [List.eraseIdx_cons_zero, List.eraseIdx_cons_succ, List.eraseIdx_zero, List.tail_cons])) | refine FEnt.drop ?_)); done)) (⟨by omega, hy0, hc5, had5⟩) ?_
    rintro k ys ⟨a2, c2⟩ ⟨k1, k2, k3, k4⟩
    conv => whnf
    repeat (intro _; conv => whnf)
    dsimp only at k3 k4
    have hyl : ys.length ≤ 8000 := by rw [k2]; unfold numS numW; simp only [List.length_append, rowN_len, List.length_take, List.length_cons, List.length_nil]; omega
    by_cases hk : k < C.ss.length
    · have hsn : ys ++ rowN (C.ss.getD k slE.d) = numS C.F C.ws C.ss.length (C.ss.take (k + 1)) := by
        rw [k2]; unfold numS; rw [flat_take (d := slE.d) hk, List.append_assoc (numW C.F C.ws.length C.ws ++ _)]
      have hrl : (rowN ((C.ss.getD k slE.d).1, (C.ss.getD k slE.d).2.1, (C.ss.getD k slE.d).2.2)).length = 3 := rfl
      conv => whnf
      repeat' (first
        | ((with_reducible refine Br.dt ?_ ?_); (focus (first | assumption | omega)); conv => whnf)
        | ((with_reducible refine Ar.i64 ?_ ?_); (focus omega); conv => whnf)
        | ((with_reducible refine Ix.ad ?_ ?_ ?_); (focus (exact Rd.ad (by assumption))); (focus (omega)); conv => whnf)
        | (first | ((first | (with_reducible apply Ld.rdk) | (with_reducible apply Ld.rdk0)); (focus ((repeat (first | assumption | apply Rd.cons)); done)); (focus rfl); (focus (omega)); (focus rfl); conv => whnf) | (refine Ld.at 1 rfl rfl ?_; conv => whnf))
        | ((with_reducible refine Dr.by (id := 10) Try.tysOk rfl [(0, 0), (1, 0), (3, 0), (7, 0), (9, 0), (13, 0), (15, 0), (2, 1), (4, 0), (5, 0), (6, 1), (8, 1), (10, 0), (11, 0), (12, 1), (14, 1), (16, 0), (17, 0), (18, 1), (19, 4), (20, 3), (21, 0)] ?_ ?_); (focus kernel_rfl); conv => whnf)
        | ((with_reducible refine CN.new (fun M => Try.refRow _ _ _ _) (fun _ _ _ _ => ?_)); conv => whnf)
        | ((with_reducible refine (?_ : Sm _ (Builtin.append_ _ _ _) _ _)); (((with_reducible apply (Sm.appAt (E := spE) (et := 73) Try.tysOk 1)); (focus rfl)); ((focus rfl); (focus ((repeat ((refine Rd.own 0 rfl ?_); (assumption))); done))); (focus rfl); (focus rfl); (focus rfl); (focus rfl); (focus rfl); (focus rfl); (focus (omega)); (intro _ _ _ _); conv => whnf)))
      rename_i a6 c6 hc6 had6 a7 c7 hc7 had7
      exact ⟨k + 1, ys ++ rowN (C.ss.getD k slE.d), (a7, c7), by kernel_rfl, by (refine FEnt.ent ?_; (repeat (first | exact FEnt.rfl | (refine FEnt.at 0 rfl ?_; (try simp only [List.eraseIdx_cons_zero, List.eraseIdx_cons_succ, List.eraseIdx_zero, List.tail_cons])) | (refine FEnt.at 1 rfl ?_; (try simp only [List.eraseIdx_cons_zero, List.eraseIdx_cons_succ, List.eraseIdx_zero, List.tail_cons])) | refine FEnt.drop ?_)); done), ⟨by omega, hsn, hc7, had7⟩, by omega⟩
    · have e : k = C.ss.length := by omega
      subst e
      rw [List.take_length] at k2
      conv => whnf
      repeat' (first
        | ((with_reducible refine Br.df ?_ ?_); (focus (first | assumption | omega)); conv => whnf)
        | ((with_reducible refine Nc.go' (fun _ => ?_)); conv => whnf)
        | (refine Ld.at 1 rfl rfl ?_; conv => whnf)
        | ((with_reducible refine (?_ : Sm _ (Builtin.append_ _ _ _) _ _)); (((with_reducible apply (Sm.appAt (E := spE) (et := 73) Try.tysOk 1)); (focus rfl)); (rotate_left; (focus (exact Rd.ptc 0 rfl [(_, _)] rfl)); rotate_right; (focus rfl)); (focus rfl); (focus rfl); (focus rfl); (focus rfl); (focus rfl); (focus rfl); (focus ((simp only [List.length_append, List.length_cons, List.length_nil]); omega)); (intro _ _ _ _); conv => whnf)))
      rename_i x7 a6 c6 hc6 had6
      have hz0 : ys ++ [((C.xs.length : Int), 1)] = numC C.F C.ws C.ss C.xs.length (C.xs.take 0) := by rw [k2]; unfold numC; simp
      conv => whnf
      refine Lp.by3 Try.tysOk [6, 3] (fun (k : Nat) (zs : List Sp) (x : Option Addr × Nat) => [.int .i64 k, .slice x.1 zs.length x.2]) (fun k zs x => own spE 73 x.1 x.2 zs :: ptc b1 34 (cfC C) :: L) (fun k zs x => k ≤ C.xs.length ∧ zs = numC C.F C.ws C.ss C.xs.length (C.xs.take k) ∧ zs.length ≤ x.2 ∧ Ad x.1 zs.length) (fun k zs x => C.xs.length - k) (0) ((ys ++ [((C.xs.length : Int), 1)])) (((a6, c6) : Option Addr × Nat)) (by kernel_rfl) (by (refine FEnt.ent ?_; (repeat (first | exact FEnt.rfl | (refine FEnt.at 0 rfl ?_; (try simp only [List.eraseIdx_cons_zero, List.eraseIdx_cons_succ, List.eraseIdx_zero, List.tail_cons])) | (refine FEnt.at 1 rfl ?_; (try simp only [List.eraseIdx_cons_zero, List.eraseIdx_cons_succ, List.eraseIdx_zero, List.tail_cons])) | refine FEnt.drop ?_)); done)) (⟨by omega, hz0, hc6, had6⟩) ?_
      rintro k us ⟨a2, c2⟩ ⟨m1, m2, m3, m4⟩
      conv => whnf
      repeat (intro _; conv => whnf)
      dsimp only at m3 m4
      have hul : us.length ≤ 20000 := by rw [m2]; unfold numC numS numW; simp only [List.length_append, rowN_len, cliN_len, List.length_take, List.length_cons, List.length_nil]; omega
      by_cases hk : k < C.xs.length
      · have hsn : us ++ cliN (C.xs.getD k clE.d) = numC C.F C.ws C.ss C.xs.length (C.xs.take (k + 1)) := by
          rw [m2]; unfold numC; rw [flat_take (d := clE.d) hk, List.append_assoc (numS C.F C.ws C.ss.length C.ss ++ _)]
        conv => whnf
        repeat' (first
          | ((with_reducible refine Br.dt ?_ ?_); (focus (first | assumption | omega)); conv => whnf)
          | ((with_reducible refine Ar.i64 ?_ ?_); (focus omega); conv => whnf)
          | ((with_reducible refine Nd.mk ?_ ?_); (focus (first | omega | rfl | assumption | (simp; done))); conv => whnf)
          | ((with_reducible refine Nc.go' (fun _ => ?_)); conv => whnf)
          | ((with_reducible refine Ix.ad ?_ ?_ ?_); (focus (exact Rd.ad (by assumption))); (focus (omega)); conv => whnf)
          | (first | (refine Ld.at 0 rfl rfl ?_; conv => whnf) | (refine Ld.at 1 rfl rfl ?_; conv => whnf))
          | ((with_reducible apply LdN.rdk); (focus ((repeat (first | assumption | apply Rd.cons)); done)); (focus rfl); (focus rfl); (focus (omega)); conv => whnf)
          | (refine St.at 0 rfl (by first | exact Nat.le_of_ble_eq_true rfl | (simp; done)) rfl ?_; conv => whnf)
          | ((with_reducible refine (?_ : Sm _ (Builtin.append_ _ _ _) _ _)); (((with_reducible apply (Sm.appAt (E := spE) (et := 73) Try.tysOk 2)); (focus rfl)); (rotate_left; (focus (exact Rd.ptc 0 rfl [(_, _), (_, _), (_, _), (_, _), (_, _), (_, _), (_, _), (_, _), (_, _), (_, _)] rfl)); rotate_right; (focus rfl)); (focus rfl); (focus rfl); (focus rfl); (focus rfl); (focus rfl); (focus rfl); (focus ((simp only [List.length_append, List.length_cons, List.length_nil]); omega)); (intro _ _ _ _); conv => whnf)))
        rename_i x8 a7 c7 hc7 had7
        exact ⟨k + 1, us ++ cliN (C.xs.getD k clE.d), (a7, c7), by kernel_rfl, by (refine FEnt.ent ?_; (repeat (first | exact FEnt.rfl | (refine FEnt.at 0 rfl ?_; (try simp only [List.eraseIdx_cons_zero, List.eraseIdx_cons_succ, List.eraseIdx_zero, List.tail_cons])) | (refine FEnt.at 2 rfl ?_; (try simp only [List.eraseIdx_cons_zero, List.eraseIdx_cons_succ, List.eraseIdx_zero, List.tail_cons])) | refine FEnt.drop ?_)); done), ⟨by omega, hsn, hc7, had7⟩, by omega⟩
      · have e : k = C.xs.length := by omega
        subst e
        rw [List.take_length] at m2
        rw [← m2]
        conv => whnf
        repeat' (first
          | ((with_reducible refine Br.df ?_ ?_); (focus (first | assumption | omega)); conv => whnf)
          | (refine Ld.at 1 rfl rfl ?_; conv => whnf))
        all_goals exact New.of rfl m3 m4 (by (refine FEnt.ent ?_; (repeat (first | exact FEnt.rfl | (refine FEnt.at 0 rfl ?_; (try simp only [List.eraseIdx_cons_zero, List.eraseIdx_cons_succ, List.eraseIdx_zero, List.tail_cons])) | refine FEnt.drop ?_)); done))
theorem Try.refSame (C : Cfg) (wa sa ca : Option Addr) (wc sc cc : Nat) (L : List HP) (hw : C.ws.length ≤ 1000) (hs : C.ss.length ≤ 1000) (hc : C.xs.length ≤ 1000) (h1 : Rd slE L C.wa C.ws) (h2 : Rd slE L C.sa C.ss) (h3 : Rd clE L C.ca C.xs) (k1 : Rd slE L wa C.ws) (k2 : Rd slE L sa C.ss) (k3 : Rd clE L ca C.xs) :
    Con Try.prog 11 [cfV C, cfV ⟨C.F, wa, wc, C.ws, sa, sc, C.ss, ca, cc, C.xs⟩] L (Is (.bool true) L) := by
  have n1 := fun L h1 h2 h3 => Try.refNums C L hw hs hc h1 h2 h3
  have n2 := fun L k1 k2 k3 => Try.refNums ⟨C.F, wa, wc, C.ws, sa, sc, C.ss, ca, cc, C.xs⟩ L hw hs hc k1 k2 k3
  have hnl : (numC C.F C.ws C.ss C.xs.length C.xs).length ≤ 20000 := by unfold numC numS numW; simp only [List.length_append, rowN_len, cliN_len, List.length_cons, List.length_nil]; omega
  dsimp only at n2
  generalize numC C.F C.ws C.ss C.xs.length C.xs = ns at *
  refine con_of Try.tysOk Try.func11 rfl rfl ?_
  conv => whnf
  repeat' (first
    | (first | ((with_reducible refine Br.ff ?_); conv => whnf) | ((with_reducible refine Br.ndf ?_ ?_); (focus (first | assumption | omega)); conv => whnf) | ((with_reducible refine Br.no ?_ ?_); (focus (first | (simp; done) | (simp; omega))); conv => whnf))
    | ((with_reducible refine Nc.go' (fun _ => ?_)); conv => whnf)
    | (first | (refine Ld.at 2 rfl rfl ?_; conv => whnf) | (refine Ld.at 3 rfl rfl ?_; conv => whnf))
    | (first | (refine LdN.at 0 rfl (by first | exact Nat.le_of_ble_eq_true rfl | (simp; done)) ?_; conv => whnf) | (refine LdN.at 1 rfl (by first | exact Nat.le_of_ble_eq_true rfl | (simp; done)) ?_; conv => whnf))
    | ((with_reducible refine Dr.by (id := 1) Try.tysOk rfl [(0, 1), (2, 1), (1, 4), (3, 4), (4, 0), (5, 0)] ?_ ?_); (focus kernel_rfl); conv => whnf)
    | (first | ((with_reducible refine CN.new (fun M => n1 _ (by ((repeat (first | assumption | apply Rd.cons | apply Rd.app)); done)) (by ((repeat (first | assumption | apply Rd.cons | apply Rd.app)); done)) (by ((repeat (first | assumption | apply Rd.cons | apply Rd.app)); done))) (fun _ _ _ _ => ?_)); conv => whnf) | ((with_reducible refine CN.new (fun M => n2 _ (by ((repeat (first | assumption | apply Rd.cons | apply Rd.app)); done)) (by ((repeat (first | assumption | apply Rd.cons | apply Rd.app)); done)) (by ((repeat (first | assumption | apply Rd.cons | apply Rd.app)); done))) (fun _ _ _ _ => ?_)); conv => whnf)))
  rename_i a5 c5 hc5 had5 a6 c6 hc6 had6
  conv => whnf
  refine Lp.by Try.tysOk [7] (fun (k : Nat) => [.int .i64 k]) (fun k => own spE 73 a5 c5 ns :: own spE 73 a6 c6 ns :: L) (fun k => k ≤ ns.length) (fun k => ns.length - k) (0) (by kernel_rfl) (by (refine FEnt.ent ?_; (repeat (first | exact FEnt.rfl | (refine FEnt.at 0 rfl ?_; (try simp only [List.eraseIdx_cons_zero, List.eraseIdx_cons_succ, List.eraseIdx_zero, List.tail_cons])) | (refine FEnt.at 1 rfl ?_; (try simp only [List.eraseIdx_cons_zero, List.eraseIdx_cons_succ, List.eraseIdx_zero, List.tail_cons])) | refine FEnt.drop ?_)); done)) (by omega) ?_
  rintro k g1
  conv => whnf
  repeat (intro _; conv => whnf)
  by_cases hk : k < ns.length
  · conv => whnf
    repeat' (first
      | (first | ((with_reducible refine Br.dt ?_ ?_); (focus (first | assumption | omega)); conv => whnf) | ((with_reducible refine Br.ndf ?_ ?_); (focus (first | assumption | omega)); conv => whnf))
      | ((with_reducible refine Ar.i64 ?_ ?_); (focus omega); conv => whnf)
      | ((with_reducible refine Nd.mk ?_ ?_); (focus (first | omega | rfl | assumption | (simp; done))); conv => whnf)
      | ((with_reducible refine Ix.ad ?_ ?_ ?_); (focus (assumption)); (focus (omega)); conv => whnf)
      | ((with_reducible apply LdN.rdk); (focus ((repeat ((first | refine Rd.own 0 rfl ?_ | refine Rd.own 1 rfl ?_); (assumption))); done)); (focus rfl); (focus rfl); (focus (omega)); conv => whnf)
      | ((with_reducible refine Dr.by (id := 7) Try.tysOk rfl [(0, 0), (1, 0), (2, 0), (4, 0), (5, 0), (6, 0), (3, 1), (7, 1), (8, 0)] ?_ ?_); (focus kernel_rfl); conv => whnf))
    all_goals exact ⟨k + 1, by kernel_rfl, by (exact Ent.rfl), by omega, by omega⟩
  · conv => whnf
    repeat' ((with_reducible refine Br.df ?_ ?_); (focus (first | assumption | omega)); conv => whnf)
    all_goals (refine Is.ent ?_ ?_; (focus (refine FEnt.ent ?_; (repeat (first | exact FEnt.rfl | refine FEnt.drop ?_)); done)); (exact Is.rfl))
end Go.Proofs
