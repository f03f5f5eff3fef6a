/- One client more: what is taken, what is free: contracts. -/
import Derived.Test.YtabonallopdgdaaBuildD
import Derived.Test.YtabonallopdgdaaBuildA
set_option linter.all false
namespace Go.Proofs
open Go.Eng
open Classical
set_option linter.unusedVariables false
set_option maxRecDepth 100000
set_option maxHeartbeats 2000000
/-- what clients, windows and slots have -/
def memT (xs : List Cli) : List Sp := xs.map fun x => (x.b, x.b + x.z)
def secT (xs : List Cli) : List Sp := xs.map fun x => (x.f, x.f + x.s)
def spaT (ws : List Slt) : List Sp := ws.map fun w => (w.2.1, w.2.2)
theorem map_snoc {α β : Type} {d : α} {f : α → β} {xs : List α} {k : Nat} (hk : k < xs.length) : (xs.take (k + 1)).map f = (xs.take k).map f ++ [f (xs.getD k d)] := by
  rw [List.take_add_one, List.getElem?_eq_getElem hk, List.map_append]
  have e : xs.getD k d = xs[k] := by simp [List.getD, hk]
  rw [e]
  simp
theorem memT_snoc {xs : List Cli} {k : Nat} (hk : k < xs.length) : memT (xs.take (k + 1)) = memT (xs.take k) ++ [((xs.getD k clE.d).b, (xs.getD k clE.d).b + (xs.getD k clE.d).z)] := map_snoc hk
theorem secT_snoc {xs : List Cli} {k : Nat} (hk : k < xs.length) : secT (xs.take (k + 1)) = secT (xs.take k) ++ [((xs.getD k clE.d).f, (xs.getD k clE.d).f + (xs.getD k clE.d).s)] := map_snoc hk
theorem spaT_snoc {xs : List Slt} {k : Nat} (hk : k < xs.length) : spaT (xs.take (k + 1)) = spaT (xs.take k) ++ [((xs.getD k slE.d).2.1, (xs.getD k slE.d).2.2)] := map_snoc hk
theorem memT_len (xs : List Cli) : (memT xs).length = xs.length := List.length_map _
theorem secT_len (xs : List Cli) : (secT xs).length = xs.length := List.length_map _
theorem spaT_len (xs : List Slt) : (spaT xs).length = xs.length := List.length_map _
theorem len_take {α : Type} {xs : List α} {k : Nat} (h : k ≤ xs.length) : (xs.take k).length = k := by rw [List.length_take]; omega
/-- tables with room for one's sums -/
structure CfS (C : Cfg) : Prop where
  w : C.ws.length ≤ 1000
  s : C.ss.length ≤ 1000
  c : C.xs.length ≤ 1000
  b : ∀ x ∈ C.xs, I64 (x.b + x.z) ∧ I64 (x.f + x.s)
theorem right_s {C : Cfg} (h : Right C) : CfS C := by
  have hf := h.f
  refine ⟨by omega, by omega, by omega, fun x hx => ?_⟩
  obtain ⟨i, hi, rfl⟩ := List.getElem_of_mem hx
  have hg : goodC (cX C i) := Classical.byContradiction fun hn => h.r2 i hi hn
  rw [show cX C i = C.xs[i] from by simp [cX, List.getD, hi]] at hg
  obtain ⟨⟨a1, a2, a3, a4⟩, -, -, -, a16, a17, a18, a19⟩ := hg
  exact ⟨⟨by omega, by omega⟩, ⟨by omega, by omega⟩⟩
abbrev Row4 := (Option Addr × Nat) × (Option Addr × Nat) × (Option Addr × Nat) × (Option Addr × Nat)
abbrev takV (C : Cfg) (y : Row4) : Value := .tuple #[.slice y.1.1 (memT C.xs).length y.1.2, .slice y.2.1.1 (secT C.xs).length y.2.1.2, .slice y.2.2.1.1 (spaT C.ws).length y.2.2.1.2, .slice y.2.2.2.1 (spaT C.ss).length y.2.2.2.2]
abbrev takH (C : Cfg) (L : List HP) (y : Row4) : List HP := own spE 60 y.1.1 y.1.2 (memT C.xs) :: own spE 60 y.2.1.1 y.2.1.2 (secT C.xs) :: own spE 60 y.2.2.1.1 y.2.2.1.2 (spaT C.ws) :: own spE 60 y.2.2.2.1 y.2.2.2.2 (spaT C.ss) :: L
abbrev takR (C : Cfg) (y : Row4) : Prop := ((memT C.xs).length ≤ y.1.2 ∧ Ad y.1.1 (memT C.xs).length) ∧ ((secT C.xs).length ≤ y.2.1.2 ∧ Ad y.2.1.1 (secT C.xs).length) ∧ ((spaT C.ws).length ≤ y.2.2.1.2 ∧ Ad y.2.2.1.1 (spaT C.ws).length) ∧ ((spaT C.ss).length ≤ y.2.2.2.2 ∧ Ad y.2.2.2.1 (spaT C.ss).length)
theorem Try.bldTaken (C : Cfg) (L : List HP) (hS : CfS C) (h1 : Rd slE L C.wa C.ws) (h2 : Rd slE L C.sa C.ss) (h3 : Rd clE L C.ca C.xs) :
    Con Try.prog 35 [cfV C] L (Exs (takV C) (takH C L) (takR C)) := by
  obtain ⟨hw, hs, hc, hb⟩ := hS
  refine con_of Try.tysOk Try.func35 rfl rfl ?_
  conv => whnf
  repeat' (first
    | ((with_reducible refine Nc.go' (fun _ => ?_)); conv => whnf)
    | (refine Ld.at 0 rfl rfl ?_; conv => whnf))
  rename_i b1
  conv => whnf
  refine Lp.by3 Try.tysOk [15, 2, 3] (fun (k : Nat) (P Q : Option Addr × Nat × List Sp) => [.int .i64 k, .slice P.1 P.2.2.length P.2.1, .slice Q.1 Q.2.2.length Q.2.1]) (fun k P Q => own spE 60 P.1 P.2.1 P.2.2 :: own spE 60 Q.1 Q.2.1 Q.2.2 :: ptc b1 34 (cfC C) :: L) (fun k P Q => k ≤ C.xs.length ∧ (P.2.2 = memT (C.xs.take k) ∧ P.2.2.length ≤ P.2.1 ∧ Ad P.1 P.2.2.length) ∧ (Q.2.2 = secT (C.xs.take k) ∧ Q.2.2.length ≤ Q.2.1 ∧ Ad Q.1 Q.2.2.length)) (fun k P Q => C.xs.length - k) (0) (((none, 0, []) : Option Addr × Nat × List Sp)) (((none, 0, []) : Option Addr × Nat × List Sp)) (by kernel_rfl) (by (refine FEnt.ent ?_; (repeat (first | exact FEnt.rfl | refine FEnt.nil ?_)); done)) (⟨by omega, ⟨rfl, by simp, fun h => (h rfl).elim⟩, ⟨rfl, by simp, fun h => (h rfl).elim⟩⟩) ?_
  rintro k ⟨a2, c2, ms⟩ ⟨a3, c3, ns⟩ ⟨g1, ⟨m1, m2, m3⟩, ⟨n1, n2, n3⟩⟩
  conv => whnf
  repeat (intro _; conv => whnf)
  dsimp only at m1 m2 m3 n1 n2 n3
  have hml : ms.length = k := by rw [m1, memT_len, len_take g1]
  have hnl : ns.length = k := by rw [n1, secT_len, len_take g1]
  by_cases hk : k < C.xs.length
  · obtain ⟨q1, q2⟩ := hb _ (getD_mem (d := clE.d) hk)
    have e1 := memT_snoc hk
    have e2 := secT_snoc hk
    rw [← m1] at e1
    rw [← n1] at e2
    clear hb
    conv => whnf
    repeat' (first
      | ((with_reducible refine Br.dt ?_ ?_); (focus (first | assumption | omega)); conv => whnf)
      | ((with_reducible refine Ar.i64 ?_ ?_); (focus omega); conv => whnf)
      | ((with_reducible refine Nd.mk ?_ ?_); (focus (first | omega | rfl | assumption | (simp; done))); conv => whnf)
      | ((with_reducible refine Nc.go' (fun _ => ?_)); conv => whnf)
      | ((with_reducible refine Ix.ad ?_ ?_ ?_); (focus (exact Rd.ad (by assumption))); (focus (omega)); conv => whnf)
      | (first | (refine Ld.at 0 rfl rfl ?_; conv => whnf) | (refine Ld.at 2 rfl rfl ?_; conv => whnf))
      | ((with_reducible apply LdN.rdk); (focus ((repeat (first | assumption | apply Rd.cons)); done)); (focus rfl); (focus rfl); (focus (omega)); conv => whnf)
      | (refine St.at 0 rfl (by first | exact Nat.le_of_ble_eq_true rfl | (simp; done)) rfl ?_; conv => whnf)
      | ((with_reducible refine (?_ : Sm _ (Builtin.append_ _ _ _) _ _)); ((first | ((with_reducible apply (Sm.appAt (E := spE) (et := 60) Try.tysOk 2)); (focus rfl)) | ((with_reducible apply (Sm.appAt (E := spE) (et := 60) Try.tysOk 4)); (focus rfl))); (rotate_left; (focus (exact Rd.ptc 0 rfl [(_, _)] rfl)); rotate_right; (focus rfl)); (focus rfl); (focus rfl); (focus rfl); (focus rfl); (focus rfl); (focus rfl); (focus ((simp only [List.length_append, List.length_cons, List.length_nil]); omega)); (intro _ _ _ _); conv => whnf)))
    rename_i a4 c4 hc4 had4 x5 a5 c5 hc5 had5
    exact ⟨k + 1, (a4, c4, _), (a5, c5, _), by kernel_rfl, by (try dsimp only); (refine FEnt.ent ?_; (repeat (first | exact FEnt.rfl | (refine FEnt.at 0 rfl ?_; (try simp only [List.eraseIdx_cons_zero, List.eraseIdx_cons_succ, List.eraseIdx_zero, List.tail_cons])) | (refine FEnt.at 2 rfl ?_; (try simp only [List.eraseIdx_cons_zero, List.eraseIdx_cons_succ, List.eraseIdx_zero, List.tail_cons])) | (refine FEnt.at 3 rfl ?_; (try simp only [List.eraseIdx_cons_zero, List.eraseIdx_cons_succ, List.eraseIdx_zero, List.tail_cons])) | refine FEnt.drop ?_)); done), ⟨by omega, ⟨e1.symm, hc4, had4⟩, ⟨e2.symm, hc5, had5⟩⟩, by omega⟩
  · have e : k = C.xs.length := by omega
    subst e
    rw [List.take_length] at m1 n1
    subst m1 n1
    clear hb
    conv => whnf
    repeat' (first
      | ((with_reducible refine Br.df ?_ ?_); (focus (first | assumption | omega)); conv => whnf)
      | (refine Ld.at 2 rfl rfl ?_; conv => whnf))
    conv => whnf
    refine Lp.by2 Try.tysOk [45, 4] (fun (k : Nat) (P : Option Addr × Nat × List Sp) => [.int .i64 k, .slice P.1 P.2.2.length P.2.1]) (fun k P => own spE 60 P.1 P.2.1 P.2.2 :: own spE 60 a2 c2 (memT C.xs) :: own spE 60 a3 c3 (secT C.xs) :: ptc b1 34 (cfC C) :: L) (fun k P => k ≤ C.ws.length ∧ (P.2.2 = spaT (C.ws.take k) ∧ P.2.2.length ≤ P.2.1 ∧ Ad P.1 P.2.2.length)) (fun k P => C.ws.length - k) (0) (((none, 0, []) : Option Addr × Nat × List Sp)) (by kernel_rfl) (by (exact Ent.nil)) (⟨by omega, ⟨rfl, by simp, fun h => (h rfl).elim⟩⟩) ?_
    rintro k ⟨a4, c4, ps⟩ ⟨g2, ⟨p1, p2, p3⟩⟩
    conv => whnf
    repeat (intro _; conv => whnf)
    dsimp only at p1 p2 p3
    have hpl : ps.length = k := by rw [p1, spaT_len, len_take g2]
    by_cases hk : k < C.ws.length
    · have e1 := spaT_snoc hk
      rw [← p1] at e1
      conv => whnf
      repeat' (first
        | ((with_reducible refine Br.dt ?_ ?_); (focus (first | assumption | omega)); conv => whnf)
        | ((with_reducible refine Ar.i64 ?_ ?_); (focus omega); conv => whnf)
        | ((with_reducible refine Nd.mk ?_ ?_); (focus (first | omega | rfl | assumption | (simp; done))); conv => whnf)
        | ((with_reducible refine Nc.go' (fun _ => ?_)); conv => whnf)
        | ((with_reducible refine Ix.ad ?_ ?_ ?_); (focus (exact Rd.ad (by assumption))); (focus (omega)); conv => whnf)
        | (refine Ld.at 0 rfl rfl ?_; conv => whnf)
        | ((with_reducible apply LdN.rdk); (focus ((repeat (first | assumption | apply Rd.cons)); done)); (focus rfl); (focus rfl); (focus (omega)); conv => whnf)
        | (refine St.at 0 rfl (by first | exact Nat.le_of_ble_eq_true rfl | (simp; done)) rfl ?_; conv => whnf)
        | ((with_reducible refine (?_ : Sm _ (Builtin.append_ _ _ _) _ _)); (((with_reducible apply (Sm.appAt (E := spE) (et := 60) Try.tysOk 2)); (focus rfl)); (rotate_left; (focus (exact Rd.ptc 0 rfl [_] rfl)); rotate_right; (focus rfl)); (focus rfl); (focus rfl); (focus rfl); (focus rfl); (focus rfl); (focus rfl); (focus ((simp only [List.length_append, List.length_cons, List.length_nil]); omega)); (intro _ _ _ _); conv => whnf)))
      rename_i a5 c5 hc5 had5
      exact ⟨k + 1, (a5, c5, _), by kernel_rfl, by (try dsimp only); (refine FEnt.ent ?_; (repeat (first | exact FEnt.rfl | (refine FEnt.at 0 rfl ?_; (try simp only [List.eraseIdx_cons_zero, List.eraseIdx_cons_succ, List.eraseIdx_zero, List.tail_cons])) | (refine FEnt.at 2 rfl ?_; (try simp only [List.eraseIdx_cons_zero, List.eraseIdx_cons_succ, List.eraseIdx_zero, List.tail_cons])) | refine FEnt.drop ?_)); done), ⟨by omega, ⟨e1.symm, hc5, had5⟩⟩, by omega⟩
    · have e : k = C.ws.length := by omega
      subst e
      rw [List.take_length] at p1
      subst p1
      conv => whnf
      repeat' (first
        | ((with_reducible refine Br.df ?_ ?_); (focus (first | assumption | omega)); conv => whnf)
        | (refine Ld.at 3 rfl rfl ?_; conv => whnf))
      conv => whnf
      refine Lp.by2 Try.tysOk [61, 5] (fun (k : Nat) (P : Option Addr × Nat × List Sp) => [.int .i64 k, .slice P.1 P.2.2.length P.2.1]) (fun k P => own spE 60 P.1 P.2.1 P.2.2 :: own spE 60 a4 c4 (spaT C.ws) :: own spE 60 a2 c2 (memT C.xs) :: own spE 60 a3 c3 (secT C.xs) :: ptc b1 34 (cfC C) :: L) (fun k P => k ≤ C.ss.length ∧ (P.2.2 = spaT (C.ss.take k) ∧ P.2.2.length ≤ P.2.1 ∧ Ad P.1 P.2.2.length)) (fun k P => C.ss.length - k) (0) (((none, 0, []) : Option Addr × Nat × List Sp)) (by kernel_rfl) (by (exact Ent.nil)) (⟨by omega, ⟨rfl, by simp, fun h => (h rfl).elim⟩⟩) ?_
      rintro k ⟨a5, c5, qs⟩ ⟨g3, ⟨q1, q2, q3⟩⟩
      conv => whnf
      repeat (intro _; conv => whnf)
      dsimp only at q1 q2 q3
      have hql : qs.length = k := by rw [q1, spaT_len, len_take g3]
      by_cases hk : k < C.ss.length
      · have e1 := spaT_snoc hk
        rw [← q1] at e1
        conv => whnf
        repeat' (first
          | ((with_reducible refine Br.dt ?_ ?_); (focus (first | assumption | omega)); conv => whnf)
          | ((with_reducible refine Ar.i64 ?_ ?_); (focus omega); conv => whnf)
          | ((with_reducible refine Nd.mk ?_ ?_); (focus (first | omega | rfl | assumption | (simp; done))); conv => whnf)
          | ((with_reducible refine Nc.go' (fun _ => ?_)); conv => whnf)
          | ((with_reducible refine Ix.ad ?_ ?_ ?_); (focus (exact Rd.ad (by assumption))); (focus (omega)); conv => whnf)
          | (refine Ld.at 0 rfl rfl ?_; conv => whnf)
          | ((with_reducible apply LdN.rdk); (focus ((repeat (first | assumption | apply Rd.cons)); done)); (focus rfl); (focus rfl); (focus (omega)); conv => whnf)
          | (refine St.at 0 rfl (by first | exact Nat.le_of_ble_eq_true rfl | (simp; done)) rfl ?_; conv => whnf)
          | ((with_reducible refine (?_ : Sm _ (Builtin.append_ _ _ _) _ _)); (((with_reducible apply (Sm.appAt (E := spE) (et := 60) Try.tysOk 2)); (focus rfl)); (rotate_left; (focus (exact Rd.ptc 0 rfl [_] rfl)); rotate_right; (focus rfl)); (focus rfl); (focus rfl); (focus rfl); (focus rfl); (focus rfl); (focus rfl); (focus ((simp only [List.length_append, List.length_cons, List.length_nil]); omega)); (intro _ _ _ _); conv => whnf)))
        rename_i a6 c6 hc6 had6
        exact ⟨k + 1, (a6, c6, _), by kernel_rfl, by (try dsimp only); (refine FEnt.ent ?_; (repeat (first | exact FEnt.rfl | (refine FEnt.at 0 rfl ?_; (try simp only [List.eraseIdx_cons_zero, List.eraseIdx_cons_succ, List.eraseIdx_zero, List.tail_cons])) | (refine FEnt.at 2 rfl ?_; (try simp only [List.eraseIdx_cons_zero, List.eraseIdx_cons_succ, List.eraseIdx_zero, List.tail_cons])) | refine FEnt.drop ?_)); done), ⟨by omega, ⟨e1.symm, hc6, had6⟩⟩, by omega⟩
      · have e : k = C.ss.length := by omega
        subst e
        rw [List.take_length] at q1
        subst q1
        conv => whnf
        repeat' ((with_reducible refine Br.df ?_ ?_); (focus (first | assumption | omega)); conv => whnf)
        all_goals exact Exs.of (((a2, c2), (a3, c3), (a4, c4), (a5, c5)) : Row4) (by (try dsimp only); (refine FEnt.ent ?_; (repeat (first | exact FEnt.rfl | (refine FEnt.at 0 rfl ?_; (try simp only [List.eraseIdx_cons_zero, List.eraseIdx_cons_succ, List.eraseIdx_zero, List.tail_cons])) | (refine FEnt.at 1 rfl ?_; (try simp only [List.eraseIdx_cons_zero, List.eraseIdx_cons_succ, List.eraseIdx_zero, List.tail_cons])) | (refine FEnt.at 2 rfl ?_; (try simp only [List.eraseIdx_cons_zero, List.eraseIdx_cons_succ, List.eraseIdx_zero, List.tail_cons])) | refine FEnt.drop ?_)); done)) ⟨⟨m2, m3⟩, ⟨n2, n3⟩, ⟨p2, p3⟩, ⟨q2, q3⟩⟩ rfl
theorem Try.refSpans (C : Cfg) (L : List HP) (hS : CfS C) (h1 : Rd slE L C.wa C.ws) (h2 : Rd slE L C.sa C.ss) (h3 : Rd clE L C.ca C.xs) :
    Con Try.prog 43 [cfV C] L (Exs (takV C) (takH C L) (takR C)) := by
  obtain ⟨hw, hs, hc, hb⟩ := hS
  refine con_of Try.tysOk Try.func43 rfl rfl ?_
  conv => whnf
  repeat' ((with_reducible refine Nc.go' (fun _ => ?_)); conv => whnf)
  rename_i b1
  conv => whnf
  refine Lp.by3 Try.tysOk [10, 6, 7] (fun (k : Nat) (P Q : Option Addr × Nat × List Sp) => [.int .i64 k, .slice P.1 P.2.2.length P.2.1, .slice Q.1 Q.2.2.length Q.2.1]) (fun k P Q => own spE 60 P.1 P.2.1 P.2.2 :: own spE 60 Q.1 Q.2.1 Q.2.2 :: ptc b1 34 (cfC C) :: L) (fun k P Q => k ≤ C.xs.length ∧ (P.2.2 = memT (C.xs.take k) ∧ P.2.2.length ≤ P.2.1 ∧ Ad P.1 P.2.2.length) ∧ (Q.2.2 = secT (C.xs.take k) ∧ Q.2.2.length ≤ Q.2.1 ∧ Ad Q.1 Q.2.2.length)) (fun k P Q => C.xs.length - k) (0) (((none, 0, []) : Option Addr × Nat × List Sp)) (((none, 0, []) : Option Addr × Nat × List Sp)) (by kernel_rfl) (by (refine FEnt.ent ?_; (repeat (first | exact FEnt.rfl | refine FEnt.nil ?_)); done)) (⟨by omega, ⟨rfl, by simp, fun h => (h rfl).elim⟩, ⟨rfl, by simp, fun h => (h rfl).elim⟩⟩) ?_
  rintro k ⟨a2, c2, ms⟩ ⟨a3, c3, ns⟩ ⟨g1, ⟨m1, m2, m3⟩, ⟨n1, n2, n3⟩⟩
  conv => whnf
  repeat (intro _; conv => whnf)
  dsimp only at m1 m2 m3 n1 n2 n3
  have hml : ms.length = k := by rw [m1, memT_len, len_take g1]
  have hnl : ns.length = k := by rw [n1, secT_len, len_take g1]
  by_cases hk : k < C.xs.length
  · obtain ⟨q1, q2⟩ := hb _ (getD_mem (d := clE.d) hk)
    have e1 := memT_snoc hk
    have e2 := secT_snoc hk
    rw [← m1] at e1
    rw [← n1] at e2
    clear hb
    conv => whnf
    repeat' (first
      | ((with_reducible refine Br.dt ?_ ?_); (focus (first | assumption | omega)); conv => whnf)
      | ((with_reducible refine Ar.i64 ?_ ?_); (focus omega); conv => whnf)
      | ((with_reducible refine Nd.mk ?_ ?_); (focus (first | omega | rfl | assumption | (simp; done))); conv => whnf)
      | ((with_reducible refine Nc.go' (fun _ => ?_)); conv => whnf)
      | ((with_reducible refine Ix.ad ?_ ?_ ?_); (focus (exact Rd.ad (by assumption))); (focus (omega)); conv => whnf)
      | (first | (refine Ld.at 0 rfl rfl ?_; conv => whnf) | (refine Ld.at 2 rfl rfl ?_; conv => whnf))
      | ((with_reducible apply LdN.rdk); (focus ((repeat (first | assumption | apply Rd.cons)); done)); (focus rfl); (focus rfl); (focus (omega)); conv => whnf)
      | (refine St.at 0 rfl (by first | exact Nat.le_of_ble_eq_true rfl | (simp; done)) rfl ?_; conv => whnf)
      | ((with_reducible refine (?_ : Sm _ (Builtin.append_ _ _ _) _ _)); ((first | ((with_reducible apply (Sm.appAt (E := spE) (et := 60) Try.tysOk 2)); (focus rfl)) | ((with_reducible apply (Sm.appAt (E := spE) (et := 60) Try.tysOk 4)); (focus rfl))); (rotate_left; (focus (exact Rd.ptc 0 rfl [(_, _)] rfl)); rotate_right; (focus rfl)); (focus rfl); (focus rfl); (focus rfl); (focus rfl); (focus rfl); (focus rfl); (focus ((simp only [List.length_append, List.length_cons, List.length_nil]); omega)); (intro _ _ _ _); conv => whnf)))
    rename_i a4 c4 hc4 had4 x5 a5 c5 hc5 had5
    exact ⟨k + 1, (a4, c4, _), (a5, c5, _), by kernel_rfl, by (try dsimp only); (refine FEnt.ent ?_; (repeat (first | exact FEnt.rfl | (refine FEnt.at 0 rfl ?_; (try simp only [List.eraseIdx_cons_zero, List.eraseIdx_cons_succ, List.eraseIdx_zero, List.tail_cons])) | (refine FEnt.at 2 rfl ?_; (try simp only [List.eraseIdx_cons_zero, List.eraseIdx_cons_succ, List.eraseIdx_zero, List.tail_cons])) | (refine FEnt.at 3 rfl ?_; (try simp only [List.eraseIdx_cons_zero, List.eraseIdx_cons_succ, List.eraseIdx_zero, List.tail_cons])) | refine FEnt.drop ?_)); done), ⟨by omega, ⟨e1.symm, hc4, had4⟩, ⟨e2.symm, hc5, had5⟩⟩, by omega⟩
  · have e : k = C.xs.length := by omega
    subst e
    rw [List.take_length] at m1 n1
    subst m1 n1
    clear hb
    conv => whnf
    repeat' (first
      | ((with_reducible refine Br.df ?_ ?_); (focus (first | assumption | omega)); conv => whnf)
      | (refine Ld.at 2 rfl rfl ?_; conv => whnf))
    conv => whnf
    refine Lp.by2 Try.tysOk [12, 8] (fun (k : Nat) (P : Option Addr × Nat × List Sp) => [.int .i64 k, .slice P.1 P.2.2.length P.2.1]) (fun k P => own spE 60 P.1 P.2.1 P.2.2 :: own spE 60 a2 c2 (memT C.xs) :: own spE 60 a3 c3 (secT C.xs) :: ptc b1 34 (cfC C) :: L) (fun k P => k ≤ C.ws.length ∧ (P.2.2 = spaT (C.ws.take k) ∧ P.2.2.length ≤ P.2.1 ∧ Ad P.1 P.2.2.length)) (fun k P => C.ws.length - k) (0) (((none, 0, []) : Option Addr × Nat × List Sp)) (by kernel_rfl) (by (exact Ent.nil)) (⟨by omega, ⟨rfl, by simp, fun h => (h rfl).elim⟩⟩) ?_
    rintro k ⟨a4, c4, ps⟩ ⟨g2, ⟨p1, p2, p3⟩⟩
    conv => whnf
    repeat (intro _; conv => whnf)
    dsimp only at p1 p2 p3
    have hpl : ps.length = k := by rw [p1, spaT_len, len_take g2]
    by_cases hk : k < C.ws.length
    · have e1 := spaT_snoc hk
      rw [← p1] at e1
      conv => whnf
      repeat' (first
        | ((with_reducible refine Br.dt ?_ ?_); (focus (first | assumption | omega)); conv => whnf)
        | ((with_reducible refine Ar.i64 ?_ ?_); (focus omega); conv => whnf)
        | ((with_reducible refine Nc.go' (fun _ => ?_)); conv => whnf)
        | ((with_reducible refine Ix.ad ?_ ?_ ?_); (focus (exact Rd.ad (by assumption))); (focus (omega)); conv => whnf)
        | (first | ((with_reducible apply Ld.rdk); (focus ((repeat (first | assumption | apply Rd.cons)); done)); (focus rfl); (focus (omega)); (focus rfl); conv => whnf) | (refine Ld.at 3 rfl rfl ?_; conv => whnf))
        | ((with_reducible refine Dr.by (id := 11) Try.tysOk rfl [(0, 0), (1, 0), (3, 0), (7, 0), (9, 0), (2, 1), (4, 0), (5, 0), (6, 1), (8, 1), (10, 0), (11, 0), (12, 1), (13, 0), (14, 2), (15, 3), (16, 0)] ?_ ?_); (focus kernel_rfl); conv => whnf)
        | ((with_reducible refine (?_ : Sm _ (Builtin.append_ _ _ _) _ _)); (((with_reducible apply (Sm.appAt (E := spE) (et := 60) Try.tysOk 1)); (focus rfl)); (rotate_left; (focus (exact Rd.ptc 0 rfl [_] rfl)); rotate_right; (focus rfl)); (focus rfl); (focus rfl); (focus rfl); (focus rfl); (focus rfl); (focus rfl); (focus ((simp only [List.length_append, List.length_cons, List.length_nil]); omega)); (intro _ _ _ _); conv => whnf)))
      rename_i a5 c5 hc5 had5
      exact ⟨k + 1, (a5, c5, _), by kernel_rfl, by (try dsimp only); (refine FEnt.ent ?_; (repeat (first | exact FEnt.rfl | (refine FEnt.at 0 rfl ?_; (try simp only [List.eraseIdx_cons_zero, List.eraseIdx_cons_succ, List.eraseIdx_zero, List.tail_cons])) | (refine FEnt.at 1 rfl ?_; (try simp only [List.eraseIdx_cons_zero, List.eraseIdx_cons_succ, List.eraseIdx_zero, List.tail_cons])) | refine FEnt.drop ?_)); done), ⟨by omega, ⟨e1.symm, hc5, had5⟩⟩, by omega⟩
    · have e : k = C.ws.length := by omega
      subst e
      rw [List.take_length] at p1
      subst p1
      conv => whnf
      repeat' (first
        | ((with_reducible refine Br.df ?_ ?_); (focus (first | assumption | omega)); conv => whnf)
        | (refine Ld.at 3 rfl rfl ?_; conv => whnf))
      conv => whnf
      refine Lp.by2 Try.tysOk [13, 9] (fun (k : Nat) (P : Option Addr × Nat × List Sp) => [.int .i64 k, .slice P.1 P.2.2.length P.2.1]) (fun k P => own spE 60 P.1 P.2.1 P.2.2 :: own spE 60 a4 c4 (spaT C.ws) :: own spE 60 a2 c2 (memT C.xs) :: own spE 60 a3 c3 (secT C.xs) :: ptc b1 34 (cfC C) :: L) (fun k P => k ≤ C.ss.length ∧ (P.2.2 = spaT (C.ss.take k) ∧ P.2.2.length ≤ P.2.1 ∧ Ad P.1 P.2.2.length)) (fun k P => C.ss.length - k) (0) (((none, 0, []) : Option Addr × Nat × List Sp)) (by kernel_rfl) (by (exact Ent.nil)) (⟨by omega, ⟨rfl, by simp, fun h => (h rfl).elim⟩⟩) ?_
      rintro k ⟨a5, c5, qs⟩ ⟨g3, ⟨q1, q2, q3⟩⟩
      conv => whnf
      repeat (intro _; conv => whnf)
      dsimp only at q1 q2 q3
      have hql : qs.length = k := by rw [q1, spaT_len, len_take g3]
      by_cases hk : k < C.ss.length
      · have e1 := spaT_snoc hk
        rw [← q1] at e1
        conv => whnf
        repeat' (first
          | ((with_reducible refine Br.dt ?_ ?_); (focus (first | assumption | omega)); conv => whnf)
          | ((with_reducible refine Ar.i64 ?_ ?_); (focus omega); conv => whnf)
          | ((with_reducible refine Nc.go' (fun _ => ?_)); conv => whnf)
          | ((with_reducible refine Ix.ad ?_ ?_ ?_); (focus (exact Rd.ad (by assumption))); (focus (omega)); conv => whnf)
          | (first | ((with_reducible apply Ld.rdk); (focus ((repeat (first | assumption | apply Rd.cons)); done)); (focus rfl); (focus (omega)); (focus rfl); conv => whnf) | (refine Ld.at 4 rfl rfl ?_; conv => whnf))
          | ((with_reducible refine Dr.by (id := 15) Try.tysOk rfl [(0, 0), (1, 0), (3, 0), (7, 0), (9, 0), (2, 1), (4, 0), (5, 0), (6, 1), (8, 1), (10, 0), (11, 0), (12, 1), (13, 0), (14, 2), (15, 3), (16, 0)] ?_ ?_); (focus kernel_rfl); conv => whnf)
          | ((with_reducible refine (?_ : Sm _ (Builtin.append_ _ _ _) _ _)); (((with_reducible apply (Sm.appAt (E := spE) (et := 60) Try.tysOk 1)); (focus rfl)); (rotate_left; (focus (exact Rd.ptc 0 rfl [_] rfl)); rotate_right; (focus rfl)); (focus rfl); (focus rfl); (focus rfl); (focus rfl); (focus rfl); (focus rfl); (focus ((simp only [List.length_append, List.length_cons, List.length_nil]); omega)); (intro _ _ _ _); conv => whnf)))
        rename_i a6 c6 hc6 had6
        exact ⟨k + 1, (a6, c6, _), by kernel_rfl, by (try dsimp only); (refine FEnt.ent ?_; (repeat (first | exact FEnt.rfl | (refine FEnt.at 0 rfl ?_; (try simp only [List.eraseIdx_cons_zero, List.eraseIdx_cons_succ, List.eraseIdx_zero, List.tail_cons])) | (refine FEnt.at 1 rfl ?_; (try simp only [List.eraseIdx_cons_zero, List.eraseIdx_cons_succ, List.eraseIdx_zero, List.tail_cons])) | refine FEnt.drop ?_)); done), ⟨by omega, ⟨e1.symm, hc6, had6⟩⟩, by omega⟩
      · have e : k = C.ss.length := by omega
        subst e
        rw [List.take_length] at q1
        subst q1
        conv => whnf
        repeat' (first
          | ((with_reducible refine Br.df ?_ ?_); (focus (first | assumption | omega)); conv => whnf)
          | (refine Ld.at 4 rfl rfl ?_; conv => whnf))
        all_goals exact Exs.of (((a2, c2), (a3, c3), (a4, c4), (a5, c5)) : Row4) (by (try dsimp only); (refine FEnt.ent ?_; (repeat (first | exact FEnt.rfl | (refine FEnt.at 0 rfl ?_; (try simp only [List.eraseIdx_cons_zero, List.eraseIdx_cons_succ, List.eraseIdx_zero, List.tail_cons])) | (refine FEnt.at 1 rfl ?_; (try simp only [List.eraseIdx_cons_zero, List.eraseIdx_cons_succ, List.eraseIdx_zero, List.tail_cons])) | (refine FEnt.at 2 rfl ?_; (try simp only [List.eraseIdx_cons_zero, List.eraseIdx_cons_succ, List.eraseIdx_zero, List.tail_cons])) | refine FEnt.drop ?_)); done)) ⟨⟨m2, m3⟩, ⟨n2, n3⟩, ⟨p2, p3⟩, ⟨q2, q3⟩⟩ rfl
theorem Try.cloneWn (a : Option Addr) (c : Nat) (xs : List Slt) (L : List HP) (hl : xs.length ≤ 1000) (hr : Rd slE L a xs) :
    Con Try.prog 40 [.slice a xs.length c] L (New slE 62 xs L) := by
  refine con_of Try.tysOk Try.func40 rfl rfl ?_
  conv => whnf
  repeat' (first
    | ((with_reducible refine Nc.go' (fun _ => ?_)); conv => whnf)
    | ((with_reducible refine (?_ : Sm _ (Builtin.append_ _ _ _) _ _)); (((with_reducible_and_instances apply (Sm.appNew (E := slE) (et := 62) Try.tysOk 0)); (focus rfl)); ((focus rfl); (focus ((repeat (first | assumption | apply Rd.cons)); done))); (focus rfl); (focus rfl); (focus rfl); (focus rfl); (focus rfl); (focus (omega)); (intro _ _ _ _); conv => whnf))
    | ((with_reducible refine Br.bs (fun _ => ?_) (fun _ => ?_) ) <;> (conv => whnf)))
  · rename_i h
    have hx : xs = [] := by
      rcases xs with _ | ⟨x, xs⟩
      · rfl
      · have := hr.ad (by simp)
        rw [this] at h; cases h
    subst hx
    exact New.nil Ent.rfl
  · exact New.of rfl (by assumption) (by assumption) Ent.rfl
theorem Try.cloneSl (a : Option Addr) (c : Nat) (xs : List Slt) (L : List HP) (hl : xs.length ≤ 1000) (hr : Rd slE L a xs) :
    Con Try.prog 41 [.slice a xs.length c] L (New slE 67 xs L) := by
  refine con_of Try.tysOk Try.func41 rfl rfl ?_
  conv => whnf
  repeat' (first
    | ((with_reducible refine Nc.go' (fun _ => ?_)); conv => whnf)
    | ((with_reducible refine (?_ : Sm _ (Builtin.append_ _ _ _) _ _)); (((with_reducible_and_instances apply (Sm.appNew (E := slE) (et := 67) Try.tysOk 0)); (focus rfl)); ((focus rfl); (focus ((repeat (first | assumption | apply Rd.cons)); done))); (focus rfl); (focus rfl); (focus rfl); (focus rfl); (focus rfl); (focus (omega)); (intro _ _ _ _); conv => whnf))
    | ((with_reducible refine Br.bs (fun _ => ?_) (fun _ => ?_) ) <;> (conv => whnf)))
  · rename_i h
    have hx : xs = [] := by
      rcases xs with _ | ⟨x, xs⟩
      · rfl
      · have := hr.ad (by simp)
        rw [this] at h; cases h
    subst hx
    exact New.nil Ent.rfl
  · exact New.of rfl (by assumption) (by assumption) Ent.rfl
theorem Try.cloneCl (a : Option Addr) (c : Nat) (xs : List Cli) (L : List HP) (hl : xs.length ≤ 1000) (hr : Rd clE L a xs) :
    Con Try.prog 42 [.slice a xs.length c] L (New clE 64 xs L) := by
  refine con_of Try.tysOk Try.func42 rfl rfl ?_
  conv => whnf
  repeat' (first
    | ((with_reducible refine Nc.go' (fun _ => ?_)); conv => whnf)
    | ((with_reducible refine (?_ : Sm _ (Builtin.append_ _ _ _) _ _)); (((with_reducible_and_instances apply (Sm.appNew (E := clE) (et := 64) Try.tysOk 0)); (focus rfl)); ((focus rfl); (focus ((repeat (first | assumption | apply Rd.cons)); done))); (focus rfl); (focus rfl); (focus rfl); (focus rfl); (focus rfl); (focus (omega)); (intro _ _ _ _); conv => whnf))
    | ((with_reducible refine Br.bs (fun _ => ?_) (fun _ => ?_) ) <;> (conv => whnf)))
  · rename_i h
    have hx : xs = [] := by
      rcases xs with _ | ⟨x, xs⟩
      · rfl
      · have := hr.ad (by simp)
        rw [this] at h; cases h
    subst hx
    exact New.nil Ent.rfl
  · exact New.of rfl (by assumption) (by assumption) Ent.rfl
/-! is the first window too short -/
theorem Try.wnIndexM (a : Option Addr) (c : Nat) (xs : List Slt) (L : List HP) (hb : xs.length < 9223372036854775807) (hr : Rd slE L a xs) (g : FuncId) (cs : List Value) (p : Slt → Bool)
    (hg : ∀ x ∈ xs, Con Try.prog g (slV x.1 x.2.1 x.2.2 :: cs) L (Is (.bool (p x)) L)) :
    Con Try.prog 70 [.slice a xs.length c, .func (.func g) #[] cs.toArray] L (Is (.int .i64 (idxF p xs)) L) := by
  refine con_of Try.tysOk Try.func70 rfl rfl ?_
  conv => whnf
  refine Lp.by Try.tysOk [8] (fun k : Nat => [.int .i64 k]) (fun _ => L) (fun k => k ≤ xs.length ∧ ∀ i, i < k → p (xs.getD i slE.d) = false) (fun k => xs.length - k) (0) (by kernel_rfl) (by (exact Ent.rfl)) (⟨by omega, fun i h => by omega⟩) ?_
  rintro k ⟨h1, h2⟩
  conv => whnf
  repeat (intro _; conv => whnf)
  by_cases hk : k < xs.length
  · conv => whnf
    repeat' (first
      | ((with_reducible refine Br.dt ?_ ?_); (focus (first | assumption | omega)); conv => whnf)
      | ((with_reducible refine Ix.ad ?_ ?_ ?_); (focus (exact Rd.ad (by assumption))); (focus (omega)); conv => whnf)
      | ((with_reducible apply LdN.rdk); (focus ((repeat (assumption)); done)); (focus rfl); (focus rfl); (focus (omega)); conv => whnf))
    rw [forceL_eq]
    refine Cl.is (hg _ (getD_mem (d := slE.d) hk)) ?_
    conv => whnf
    repeat' (first
      | ((with_reducible refine Ar.i64 ?_ ?_); (focus omega); conv => whnf)
      | ((with_reducible refine Br.bs (fun _ => ?_) (fun _ => ?_) ) <;> (conv => whnf)))
    · rw [idxF_at slE.d p xs k (by omega) (by assumption) h2]
      exact Is.ent (by (exact Ent.rfl)) Is.rfl
    · refine ⟨k + 1, by kernel_rfl, by (exact Ent.rfl), ⟨by omega, lt_step h2 (by assumption)⟩, by omega⟩
  · conv => whnf
    repeat' ((with_reducible refine Br.df ?_ ?_); (focus (first | assumption | omega)); conv => whnf)
    rw [idxF_no slE.d p xs (fun i hi => h2 i (by omega))]
    exact Is.ent (by (exact Ent.rfl)) Is.rfl
theorem Try.wnContainsM (a : Option Addr) (c : Nat) (xs : List Slt) (L : List HP) (hb : xs.length < 9223372036854775807) (hr : Rd slE L a xs) (g : FuncId) (cs : List Value) (p : Slt → Bool)
    (hg : ∀ x ∈ xs, Con Try.prog g (slV x.1 x.2.1 x.2.2 :: cs) L (Is (.bool (p x)) L)) :
    Con Try.prog 56 [.slice a xs.length c, .func (.func g) #[] cs.toArray] L (Is (.bool (decide (∃ i, i < xs.length ∧ p (xs.getD i slE.d) = true))) L) := by
  refine con_of Try.tysOk Try.func56 rfl rfl ?_
  conv => whnf
  repeat' ((with_reducible refine Cl.is (Try.wnIndexM _ _ _ _ hb hr _ _ p hg) ?_); conv => whnf)
  refine Is.ent (by (exact Ent.rfl)) (Is.dec ?_)
  rcases idxF_spec slE.d p xs with ⟨h1, h2⟩ | ⟨m, h1, h2, h3, h4⟩
  · rw [h1]
    exact ⟨fun h => by omega, fun ⟨i, hi, hp⟩ => by rw [h2 i hi] at hp; cases hp⟩
  · rw [h2]
    exact ⟨fun _ => ⟨m, h1, h3⟩, fun _ => by omega⟩
abbrev shortW (n : Nat) (w : Slt) : Prop := w.1 = 0 ∧ w.2.2 - w.2.1 < 2 * ((n : Int) + 1)
def shortC (C : Cfg) : Prop := ∃ i, i < C.ws.length ∧ shortW C.xs.length (C.ws.getD i slE.d)
theorem Try.bldShort1 (C : Cfg) (b : Nat) (o f t : Int) (L : List HP) (hl : C.xs.length ≤ 1000) (h : I64 (t - f)) : Con Try.prog 57 [slV o f t, .pointer (some ⟨b, 0, none⟩)] (ptc b 34 (cfC C) :: L) (Is (.bool (decide (shortW C.xs.length (o, f, t)))) (ptc b 34 (cfC C) :: L)) := by
  refine con_of Try.tysOk Try.func57 rfl rfl ?_
  conv => whnf
  repeat' (first
    | (first | ((with_reducible refine Br.tt ?_); conv => whnf) | ((with_reducible refine Br.ff ?_); conv => whnf))
    | ((with_reducible refine Ar.i64 ?_ ?_); (focus omega); conv => whnf)
    | ((with_reducible refine Nc.go' (fun _ => ?_)); conv => whnf)
    | (first | (refine Ld.at 0 rfl rfl ?_; conv => whnf) | (refine Ld.at 1 rfl rfl ?_; conv => whnf))
    | ((with_reducible refine Br.ds (fun _ => ?_) (fun _ => ?_) ) <;> (conv => whnf)))
  · exact Is.ent (by (refine FEnt.ent ?_; (repeat (first | exact FEnt.rfl | (refine FEnt.at 1 rfl ?_; (try simp only [List.eraseIdx_cons_zero, List.eraseIdx_cons_succ, List.eraseIdx_zero, List.tail_cons])) | refine FEnt.drop ?_)); done)) (Is.dec ⟨fun h => ⟨by assumption, h⟩, fun h => h.2⟩)
  · exact Is.ent (by (refine FEnt.ent ?_; (repeat (first | exact FEnt.rfl | (refine FEnt.at 1 rfl ?_; (try simp only [List.eraseIdx_cons_zero, List.eraseIdx_cons_succ, List.eraseIdx_zero, List.tail_cons])) | refine FEnt.drop ?_)); done)) (Is.ff (fun h => absurd h.1 (by assumption)))
theorem Try.bldShort (C : Cfg) (L : List HP) (hR : Right C) (h1 : Rd slE L C.wa C.ws) : Con Try.prog 36 [cfV C] L (Is (.bool (decide (shortC C))) L) := by
  have hf := hR.f
  have hbd : ∀ x ∈ C.ws, I64 (x.2.2 - x.2.1) := fun x hx => by
    obtain ⟨i, hi, rfl⟩ := List.getElem_of_mem hx
    have hg : goodW C (cW C i) := Classical.byContradiction fun hn => hR.r4 i hi hn
    rw [show cW C i = C.ws[i] from by simp [cW, List.getD, hi]] at hg
    obtain ⟨⟨a1, a2⟩, ⟨a3, a4⟩, a5⟩ := hg
    exact ⟨by omega, by omega⟩
  have hct := fun b => Try.wnContainsM C.wa C.wc C.ws (ptc b 34 (cfC C) :: L) (by omega) (by ((repeat (first | assumption | apply Rd.cons)); done)) 57 [.pointer (some ⟨b, 0, none⟩)] (fun w => decide (shortW C.xs.length w)) (fun x hx => Try.bldShort1 C b x.1 x.2.1 x.2.2 L (by omega) (hbd x hx))
  clear hbd hf hR
  refine con_of Try.tysOk Try.func36 rfl rfl ?_
  conv => whnf
  repeat' (first
    | ((with_reducible refine Nc.go' (fun _ => ?_)); conv => whnf)
    | (refine Ld.at 0 rfl rfl ?_; conv => whnf)
    | ((with_reducible refine Cl.is (hct _) ?_); conv => whnf))
  refine Is.ent (by (refine FEnt.ent ?_; (repeat (first | exact FEnt.rfl | refine FEnt.drop ?_)); done)) (Is.dec ?_)
  exact ⟨fun ⟨i, hi, hp⟩ => ⟨i, hi, of_decide_eq_true hp⟩, fun ⟨i, hi, hp⟩ => ⟨i, hi, decide_eq_true hp⟩⟩
/-! the least number that none has -/
theorem pigeon : ∀ (k : Nat) (l : List Int), (∀ i : Nat, i < k → (i : Int) ∈ l) → k ≤ l.length
  | 0, _, _ => Nat.zero_le _
  | k + 1, l, h => by
    have hm := h k (by omega)
    have := pigeon k (l.erase (k : Int)) (fun i hi => (List.mem_erase_of_ne (by omega)).2 (h i (by omega)))
    rw [List.length_erase_of_mem hm] at this
    have := List.length_pos_of_mem hm
    omega
structure LeastP (l : List Int) (n : Nat) : Prop where
  no : ¬ (n : Int) ∈ l
  all : ∀ i : Nat, i < n → (i : Int) ∈ l
theorem LeastP.uniq {l : List Int} {n m : Nat} (h : LeastP l n) (g : LeastP l m) : n = m := by
  rcases Nat.lt_trichotomy n m with e | e | e
  · exact (h.no (g.all n e)).elim
  · exact e
  · exact (g.no (h.all m e)).elim
theorem least_ex (l : List Int) : ∃ n, LeastP l n ∧ n ≤ l.length := by
  have key : ∀ k, k ≤ l.length + 1 → (∃ n, LeastP l n ∧ n ≤ l.length) ∨ ∀ i : Nat, i < k → (i : Int) ∈ l := by
    intro k
    induction k with
    | zero => intro _; exact .inr (fun i hi => by omega)
    | succ k ih =>
      intro hk
      rcases ih (by omega) with h | h
      · exact .inl h
      · by_cases hm : (k : Int) ∈ l
        · exact .inr (lt_step h hm)
        · exact .inl ⟨k, ⟨hm, h⟩, by omega⟩
  rcases key _ (Nat.le_refl _) with h | h
  · exact h
  · have := pigeon _ _ h
    omega
theorem mem_map_at {α : Type} {d : α} {f : α → Int} {xs : List α} {n : Int} : n ∈ xs.map f ↔ ∃ i, i < xs.length ∧ f (xs.getD i d) = n := by
  rw [List.mem_map]
  constructor
  · rintro ⟨x, hx, rfl⟩
    obtain ⟨i, hi, rfl⟩ := List.getElem_of_mem hx
    exact ⟨i, hi, by simp [List.getD, hi]⟩
  · rintro ⟨i, hi, rfl⟩
    exact ⟨_, getD_mem hi, rfl⟩
theorem Try.bldAdd1 (x : Cli) (L : List HP) : Con Try.prog 38 [clV x] L (Is (n64 x.m) L) := by
  refine con_of Try.tysOk Try.func38 rfl rfl ?_
  conv => whnf
  repeat' (first
    | ((with_reducible refine Nc.go' (fun _ => ?_)); conv => whnf)
    | (refine Ld.at 0 rfl rfl ?_; conv => whnf))
  all_goals (refine Is.ent ?_ ?_; (focus (refine FEnt.ent ?_; (repeat (first | exact FEnt.rfl | refine FEnt.drop ?_)); done)); (exact Is.rfl))
theorem Try.bldAdd2 (x : Cli) (L : List HP) : Con Try.prog 39 [clV x] L (Is (n64 x.h) L) := by
  refine con_of Try.tysOk Try.func39 rfl rfl ?_
  conv => whnf
  repeat' (first
    | ((with_reducible refine Nc.go' (fun _ => ?_)); conv => whnf)
    | (refine Ld.at 0 rfl rfl ?_; conv => whnf))
  all_goals (refine Is.ent ?_ ?_; (focus (refine FEnt.ent ?_; (repeat (first | exact FEnt.rfl | refine FEnt.drop ?_)); done)); (exact Is.rfl))
abbrev fnV (g : FuncId) : Value := .func (.func g) #[] #[]
theorem Try.bldFree1 (b3 b5 : Nat) (g : FuncId) (p : Cli → Int) (k : Int) (x : Cli) (L : List HP) (hg : ∀ L, Con Try.prog g [clV x] L (Is (n64 (p x)) L)) :
    Con Try.prog 59 [clV x, .pointer (some ⟨b3, 0, none⟩), .pointer (some ⟨b5, 0, none⟩)] (ptc b5 3 [n64 k] :: ptc b3 83 [fnV g] :: L) (Is (.bool (decide (p x = k))) (ptc b5 3 [n64 k] :: ptc b3 83 [fnV g] :: L)) := by
  refine con_of Try.tysOk Try.func59 rfl rfl ?_
  conv => whnf
  repeat' (first
    | ((with_reducible refine Nc.go' (fun _ => ?_)); conv => whnf)
    | ((with_reducible refine Fk.mk ?_ ?_) <;> (conv => whnf))
    | (with_reducible exact True.intro)
    | (first | (refine Ld.at 1 rfl rfl ?_; conv => whnf) | (refine Ld.at 2 rfl rfl ?_; conv => whnf))
    | (refine LdN.at 0 rfl (by first | exact Nat.le_of_ble_eq_true rfl | (simp; done)) ?_; conv => whnf)
    | ((with_reducible refine Dr.tree (id := 1) Try.tysOk rfl (.one 0 1 (.one 1 1 (.fork 2 3 (.one 3 1 (.one 4 0 (.one 5 0 .nil))) (.fork 3 1 (.one 2 3 (.one 4 0 (.one 5 0 .nil))) .nil)))) ?_ _ ?_ (fun _ _ h => h)); (focus kernel_rfl); conv => whnf)
    | ((with_reducible refine Cl.is (hg _) ?_); conv => whnf))
  all_goals (refine Is.ent ?_ ?_; (focus (refine FEnt.ent ?_; (repeat (first | exact FEnt.rfl | (refine FEnt.at 1 rfl ?_; (try simp only [List.eraseIdx_cons_zero, List.eraseIdx_cons_succ, List.eraseIdx_zero, List.tail_cons])) | refine FEnt.drop ?_)); done)); (exact Is.rfl))
theorem Try.bldFree (a : Option Addr) (c : Nat) (xs : List Cli) (g : FuncId) (p : Cli → Int) (n : Nat) (L : List HP) (hl : xs.length ≤ 1000) (hr : Rd clE L a xs) (hg : ∀ x L, Con Try.prog g [clV x] L (Is (n64 (p x)) L)) (hn : LeastP (xs.map p) n) :
    Con Try.prog 37 [.slice a xs.length c, fnV g] L (Is (n64 n) L) := by
  refine con_of Try.tysOk Try.func37 rfl rfl ?_
  conv => whnf
  repeat' (first
    | ((with_reducible refine Nd.mk ?_ ?_); (focus (first | omega | rfl | assumption | (simp; done))); conv => whnf)
    | ((with_reducible refine Nc.go' (fun _ => ?_)); conv => whnf)
    | (refine St.at 0 rfl (by first | exact Nat.le_of_ble_eq_true rfl | (simp; done)) rfl ?_; conv => whnf))
  rename_i b3 b5
  have hct := fun k => Try.clContains a c xs (ptc b5 3 [n64 k] :: ptc b3 83 [fnV g] :: L) (by omega) (by ((repeat (first | assumption | apply Rd.cons)); done)) 59 [.pointer (some ⟨b3, 0, none⟩), .pointer (some ⟨b5, 0, none⟩)] (fun x => decide (p x = k)) (fun x hx => Try.bldFree1 b3 b5 g p k x L (hg x))
  conv => whnf
  refine Lp.by Try.tysOk [] (fun (k : Nat) => []) (fun k => ptc b5 3 [.int .i64 k] :: ptc b3 83 [fnV g] :: L) (fun k => k ≤ n ∧ k ≤ xs.length) (fun k => xs.length - k) (0) (by kernel_rfl) (by (exact Ent.rfl)) (⟨by omega, by omega⟩) ?_
  rintro k ⟨g1, g2⟩
  conv => whnf
  repeat (intro _; conv => whnf)
  by_cases hk : k = n
  · have hno : ¬ ∃ i, i < xs.length ∧ decide (p (xs.getD i clE.d) = (k : Int)) = true := fun ⟨i, hi, hp⟩ => hn.no (by rw [← hk]; exact (mem_map_at (d := clE.d)).2 ⟨i, hi, of_decide_eq_true hp⟩)
    have hct := Con.df hno (hct k)
    clear hno
    subst hk
    conv => whnf
    repeat' (first
      | ((with_reducible refine Br.ff ?_); conv => whnf)
      | (refine Ld.at 0 rfl rfl ?_; conv => whnf)
      | ((with_reducible refine Cl.is (hct) ?_); conv => whnf))
    all_goals (refine Is.ent ?_ ?_; (focus (refine FEnt.ent ?_; (repeat (first | exact FEnt.rfl | refine FEnt.drop ?_)); done)); (exact Is.rfl))
  · have hye : ∃ i, i < xs.length ∧ decide (p (xs.getD i clE.d) = (k : Int)) = true := by
      obtain ⟨i, hi, hp⟩ := (mem_map_at (d := clE.d)).1 (hn.all k (by omega))
      exact ⟨i, hi, decide_eq_true hp⟩
    have hct := Con.dt hye (hct k)
    clear hye
    have hl2 : k + 1 ≤ xs.length := by
      have := pigeon (k + 1) (xs.map p) (fun i hi => hn.all i (by omega))
      rwa [List.length_map] at this
    conv => whnf
    repeat' (first
      | ((with_reducible refine Br.tt ?_); conv => whnf)
      | ((with_reducible refine Ar.i64 ?_ ?_); (focus omega); conv => whnf)
      | ((with_reducible refine Nd.mk ?_ ?_); (focus (first | omega | rfl | assumption | (simp; done))); conv => whnf)
      | (refine Ld.at 0 rfl rfl ?_; conv => whnf)
      | (refine St.at 0 rfl (by first | exact Nat.le_of_ble_eq_true rfl | (simp; done)) rfl ?_; conv => whnf)
      | ((with_reducible refine Cl.is (hct) ?_); conv => whnf))
    all_goals exact ⟨k + 1, by kernel_rfl, by (exact Ent.rfl), ⟨by omega, by omega⟩, by omega⟩
theorem Try.refLeastM (C : Cfg) (n : Nat) (L : List HP) (hl : C.xs.length ≤ 8) (hr : Rd clE L C.ca C.xs) (hn : LeastP (C.xs.map fun x => x.m) n) (h8 : n ≤ 8) :
    Con Try.prog 44 [cfV C, .bool true] L (Is (n64 n) L) := by
  refine con_of Try.tysOk Try.func44 rfl rfl ?_
  conv => whnf
  repeat' ((with_reducible refine Nc.go' (fun _ => ?_)); conv => whnf)
  rename_i b2
  conv => whnf
  refine Lp.by Try.tysOk [5] (fun (k : Nat) => [.int .i64 k]) (fun k => ptc b2 34 (cfC C) :: L) (fun k => k ≤ n) (fun k => n - k) (0) (by kernel_rfl) (by (exact Ent.rfl)) (by omega) ?_
  rintro k g1
  conv => whnf
  repeat (intro _; conv => whnf)
  conv => whnf
  repeat' ((with_reducible refine Br.dt ?_ ?_); (focus (first | assumption | omega)); conv => whnf)
  conv => whnf
  refine Lp.by2 Try.tysOk [7, 6] (fun (j : Nat) (d : Bool) => [.int .i64 j, .bool d]) (fun j d => ptc b2 34 (cfC C) :: L) (fun j d => j ≤ C.xs.length ∧ (d = true ↔ ∃ i, i < j ∧ (C.xs.getD i clE.d).m = (k : Int))) (fun j d => C.xs.length - j) (0) (false) (by kernel_rfl) (by (exact Ent.rfl)) (⟨by omega, ⟨fun h => absurd h (by decide), fun ⟨i, hi, _⟩ => by omega⟩⟩) ?_
  rintro j d ⟨g2, g3⟩
  conv => whnf
  repeat (intro _; conv => whnf)
  by_cases hj : j < C.xs.length
  · cases d with
    | true =>
      obtain ⟨i, hi, he⟩ := g3.1 rfl
      conv => whnf
      repeat' (first
        | (first | ((with_reducible refine Br.tt ?_); conv => whnf) | ((with_reducible refine Br.dt ?_ ?_); (focus (first | assumption | omega)); conv => whnf))
        | ((with_reducible refine Ar.i64 ?_ ?_); (focus omega); conv => whnf)
        | (refine Ld.at 0 rfl rfl ?_; conv => whnf))
      all_goals exact ⟨j + 1, true, by kernel_rfl, by (exact Ent.rfl), ⟨by omega, ⟨fun _ => ⟨i, by omega, he⟩, fun _ => rfl⟩⟩, by omega⟩
    | false =>
      have hno : ∀ i, i < j → ¬ (C.xs.getD i clE.d).m = (k : Int) := fun i hi he => by cases g3.2 ⟨i, hi, he⟩
      clear g3
      by_cases hm : (C.xs.getD j clE.d).m = (k : Int)
      · have hd : decide ((C.xs.getD j clE.d).m = (k : Int)) = true := decide_eq_true hm
        conv => whnf
        repeat' (first
          | (first | ((with_reducible refine Br.tt ?_); conv => whnf) | ((with_reducible refine Br.ff ?_); conv => whnf) | ((with_reducible refine Br.dt ?_ ?_); (focus (first | assumption | omega)); conv => whnf))
          | ((with_reducible refine Ar.i64 ?_ ?_); (focus omega); conv => whnf)
          | ((with_reducible refine Ix.ad ?_ ?_ ?_); (focus (exact Rd.ad (by assumption))); (focus (omega)); conv => whnf)
          | (first | ((with_reducible apply Ld.rdk); (focus ((repeat (first | assumption | apply Rd.cons)); done)); (focus rfl); (focus (omega)); (focus rfl); conv => whnf) | (refine Ld.at 0 rfl rfl ?_; conv => whnf)))
        all_goals exact ⟨j + 1, true, by kernel_rfl, by (exact Ent.rfl), ⟨by omega, ⟨fun _ => ⟨j, by omega, hm⟩, fun _ => rfl⟩⟩, by omega⟩
      · have hd : decide ((C.xs.getD j clE.d).m = (k : Int)) = false := decide_eq_false hm
        conv => whnf
        repeat' (first
          | (first | ((with_reducible refine Br.tt ?_); conv => whnf) | ((with_reducible refine Br.ff ?_); conv => whnf) | ((with_reducible refine Br.nt ?_); conv => whnf) | ((with_reducible refine Br.dt ?_ ?_); (focus (first | assumption | omega)); conv => whnf) | ((with_reducible refine Br.df ?_ ?_); (focus (first | assumption | omega)); conv => whnf))
          | ((with_reducible refine Ar.i64 ?_ ?_); (focus omega); conv => whnf)
          | ((with_reducible refine Ix.ad ?_ ?_ ?_); (focus (exact Rd.ad (by assumption))); (focus (omega)); conv => whnf)
          | (first | ((with_reducible apply Ld.rdk); (focus ((repeat (first | assumption | apply Rd.cons)); done)); (focus rfl); (focus (omega)); (focus rfl); conv => whnf) | (refine Ld.at 0 rfl rfl ?_; conv => whnf)))
        all_goals (exact ⟨j + 1, false, by kernel_rfl, by (exact Ent.rfl), ⟨by omega, ⟨fun h => absurd h (by decide), fun ⟨i, hi, he⟩ => (lt_step (p := fun i => ¬ (C.xs.getD i clE.d).m = (k : Int)) hno hm i hi he).elim⟩⟩, by omega⟩)
  · have e : j = C.xs.length := by omega
    subst e
    cases d with
    | true =>
      obtain ⟨i, hi, he⟩ := g3.1 rfl
      have hk : k ≠ n := fun e => hn.no (by rw [← e]; exact (mem_map_at (d := clE.d)).2 ⟨i, hi, he⟩)
      conv => whnf
      repeat' (first
        | (first | ((with_reducible refine Br.nt ?_); conv => whnf) | ((with_reducible refine Br.df ?_ ?_); (focus (first | assumption | omega)); conv => whnf))
        | ((with_reducible refine Ar.i64 ?_ ?_); (focus omega); conv => whnf)
        | (refine Ld.at 0 rfl rfl ?_; conv => whnf))
      all_goals exact ⟨k + 1, by kernel_rfl, by (exact Ent.rfl), by omega, by omega⟩
    | false =>
      have hk : k = n := by
        refine Classical.byContradiction fun h => ?_
        obtain ⟨i, hi, he⟩ := (mem_map_at (d := clE.d)).1 (hn.all k (by omega))
        cases g3.2 ⟨i, hi, he⟩
      subst hk
      clear g3
      conv => whnf
      repeat' (first
        | (first | ((with_reducible refine Br.nf ?_); conv => whnf) | ((with_reducible refine Br.df ?_ ?_); (focus (first | assumption | omega)); conv => whnf))
        | (refine Ld.at 0 rfl rfl ?_; conv => whnf))
      all_goals (refine Is.ent ?_ ?_; (focus (refine FEnt.ent ?_; (repeat (first | exact FEnt.rfl | refine FEnt.drop ?_)); done)); (exact Is.rfl))
theorem Try.refLeastH (C : Cfg) (n : Nat) (L : List HP) (hl : C.xs.length ≤ 8) (hr : Rd clE L C.ca C.xs) (hn : LeastP (C.xs.map fun x => x.h) n) (h8 : n ≤ 8) :
    Con Try.prog 44 [cfV C, .bool false] L (Is (n64 n) L) := by
  refine con_of Try.tysOk Try.func44 rfl rfl ?_
  conv => whnf
  repeat' ((with_reducible refine Nc.go' (fun _ => ?_)); conv => whnf)
  rename_i b2
  conv => whnf
  refine Lp.by Try.tysOk [5] (fun (k : Nat) => [.int .i64 k]) (fun k => ptc b2 34 (cfC C) :: L) (fun k => k ≤ n) (fun k => n - k) (0) (by kernel_rfl) (by (exact Ent.rfl)) (by omega) ?_
  rintro k g1
  conv => whnf
  repeat (intro _; conv => whnf)
  conv => whnf
  repeat' ((with_reducible refine Br.dt ?_ ?_); (focus (first | assumption | omega)); conv => whnf)
  conv => whnf
  refine Lp.by2 Try.tysOk [7, 6] (fun (j : Nat) (d : Bool) => [.int .i64 j, .bool d]) (fun j d => ptc b2 34 (cfC C) :: L) (fun j d => j ≤ C.xs.length ∧ (d = true ↔ ∃ i, i < j ∧ (C.xs.getD i clE.d).h = (k : Int))) (fun j d => C.xs.length - j) (0) (false) (by kernel_rfl) (by (exact Ent.rfl)) (⟨by omega, ⟨fun h => absurd h (by decide), fun ⟨i, hi, _⟩ => by omega⟩⟩) ?_
  rintro j d ⟨g2, g3⟩
  conv => whnf
  repeat (intro _; conv => whnf)
  by_cases hj : j < C.xs.length
  · cases d with
    | true =>
      obtain ⟨i, hi, he⟩ := g3.1 rfl
      conv => whnf
      repeat' (first
        | (first | ((with_reducible refine Br.tt ?_); conv => whnf) | ((with_reducible refine Br.dt ?_ ?_); (focus (first | assumption | omega)); conv => whnf))
        | ((with_reducible refine Ar.i64 ?_ ?_); (focus omega); conv => whnf)
        | (refine Ld.at 0 rfl rfl ?_; conv => whnf))
      all_goals exact ⟨j + 1, true, by kernel_rfl, by (exact Ent.rfl), ⟨by omega, ⟨fun _ => ⟨i, by omega, he⟩, fun _ => rfl⟩⟩, by omega⟩
    | false =>
      have hno : ∀ i, i < j → ¬ (C.xs.getD i clE.d).h = (k : Int) := fun i hi he => by cases g3.2 ⟨i, hi, he⟩
      clear g3
      by_cases hm : (C.xs.getD j clE.d).h = (k : Int)
      · have hd : decide ((C.xs.getD j clE.d).h = (k : Int)) = true := decide_eq_true hm
        conv => whnf
        repeat' (first
          | (first | ((with_reducible refine Br.tt ?_); conv => whnf) | ((with_reducible refine Br.ff ?_); conv => whnf) | ((with_reducible refine Br.nf ?_); conv => whnf) | ((with_reducible refine Br.dt ?_ ?_); (focus (first | assumption | omega)); conv => whnf))
          | ((with_reducible refine Ar.i64 ?_ ?_); (focus omega); conv => whnf)
          | ((with_reducible refine Ix.ad ?_ ?_ ?_); (focus (exact Rd.ad (by assumption))); (focus (omega)); conv => whnf)
          | (first | ((with_reducible apply Ld.rdk); (focus ((repeat (first | assumption | apply Rd.cons)); done)); (focus rfl); (focus (omega)); (focus rfl); conv => whnf) | (refine Ld.at 0 rfl rfl ?_; conv => whnf)))
        all_goals (rw [hd]; exact ⟨j + 1, true, by kernel_rfl, by (exact Ent.rfl), ⟨by omega, ⟨fun _ => ⟨j, by omega, hm⟩, fun _ => rfl⟩⟩, by omega⟩)
      · have hd : decide ((C.xs.getD j clE.d).h = (k : Int)) = false := decide_eq_false hm
        conv => whnf
        repeat' (first
          | (first | ((with_reducible refine Br.tt ?_); conv => whnf) | ((with_reducible refine Br.ff ?_); conv => whnf) | ((with_reducible refine Br.nf ?_); conv => whnf) | ((with_reducible refine Br.dt ?_ ?_); (focus (first | assumption | omega)); conv => whnf))
          | ((with_reducible refine Ar.i64 ?_ ?_); (focus omega); conv => whnf)
          | ((with_reducible refine Ix.ad ?_ ?_ ?_); (focus (exact Rd.ad (by assumption))); (focus (omega)); conv => whnf)
          | (first | ((with_reducible apply Ld.rdk); (focus ((repeat (first | assumption | apply Rd.cons)); done)); (focus rfl); (focus (omega)); (focus rfl); conv => whnf) | (refine Ld.at 0 rfl rfl ?_; conv => whnf)))
        all_goals (rw [hd]; exact ⟨j + 1, false, by kernel_rfl, by (exact Ent.rfl), ⟨by omega, ⟨fun h => absurd h (by decide), fun ⟨i, hi, he⟩ => (lt_step (p := fun i => ¬ (C.xs.getD i clE.d).h = (k : Int)) hno hm i hi he).elim⟩⟩, by omega⟩)
  · have e : j = C.xs.length := by omega
    subst e
    cases d with
    | true =>
      obtain ⟨i, hi, he⟩ := g3.1 rfl
      have hk : k ≠ n := fun e => hn.no (by rw [← e]; exact (mem_map_at (d := clE.d)).2 ⟨i, hi, he⟩)
      conv => whnf
      repeat' (first
        | (first | ((with_reducible refine Br.nt ?_); conv => whnf) | ((with_reducible refine Br.df ?_ ?_); (focus (first | assumption | omega)); conv => whnf))
        | ((with_reducible refine Ar.i64 ?_ ?_); (focus omega); conv => whnf)
        | (refine Ld.at 0 rfl rfl ?_; conv => whnf))
      all_goals exact ⟨k + 1, by kernel_rfl, by (exact Ent.rfl), by omega, by omega⟩
    | false =>
      have hk : k = n := by
        refine Classical.byContradiction fun h => ?_
        obtain ⟨i, hi, he⟩ := (mem_map_at (d := clE.d)).1 (hn.all k (by omega))
        cases g3.2 ⟨i, hi, he⟩
      subst hk
      clear g3
      conv => whnf
      repeat' (first
        | (first | ((with_reducible refine Br.nf ?_); conv => whnf) | ((with_reducible refine Br.df ?_ ?_); (focus (first | assumption | omega)); conv => whnf))
        | (refine Ld.at 0 rfl rfl ?_; conv => whnf))
      all_goals (refine Is.ent ?_ ?_; (focus (refine FEnt.ent ?_; (repeat (first | exact FEnt.rfl | refine FEnt.drop ?_)); done)); (exact Is.rfl))
end Go.Proofs
