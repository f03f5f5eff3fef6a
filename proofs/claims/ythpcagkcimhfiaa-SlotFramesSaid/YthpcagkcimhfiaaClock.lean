/- The clock: contracts. -/
import Derived.Test.YthpcagkcimhfiaaClockN
set_option linter.all false
namespace Go.Proofs
open Go.Eng
set_option linter.unusedVariables false
set_option maxRecDepth 100000
set_option maxHeartbeats 800000
abbrev n64 (n : Int) : Value := .int .i64 n
theorem Try.refRight (f : Int) (L : List HP) : Con Try.prog 27 [n64 f] L (Is (.bool (decide (okF f))) L) := by
  refine con_of Try.tysOk Try.func27 rfl rfl ?_
  conv => whnf
  repeat' (first
    | (first | ((with_reducible refine Br.tt ?_); conv => whnf) | ((with_reducible refine Br.ff ?_); conv => whnf))
    | ((with_reducible refine Br.ds (fun _ => ?_) (fun _ => ?_) ) <;> (conv => whnf)))
  all_goals (refine Is.ent ?_ ?_; (focus (exact Ent.rfl)); (first | exact Is.ff (by omega) | (refine Is.dec ?_; omega)))
theorem Try.clkRight (f : Int) (L : List HP) : Con Try.prog 21 [n64 f] L (Is (.bool (decide (okF f))) L) := by
  refine con_of Try.tysOk Try.func21 rfl rfl ?_
  conv => whnf
  repeat' (first
    | (first | ((with_reducible refine Br.tt ?_); conv => whnf) | ((with_reducible refine Br.ff ?_); conv => whnf))
    | ((with_reducible refine Br.ds (fun _ => ?_) (fun _ => ?_) ) <;> (conv => whnf)))
  all_goals (refine Is.ent ?_ ?_; (focus (exact Ent.rfl)); (first | exact Is.ff (by omega) | (refine Is.dec ?_; omega)))
theorem Try.refOffset (t f : Int) (L : List HP) (ht : 0 ≤ t ∧ t ≤ 9223372036854775807) (hf : okF f) : Con Try.prog 31 [n64 t, n64 f] L (Is (n64 (t % f)) L) := by
  have h1 : t.tdiv f = t / f := Int.tdiv_eq_ediv_of_nonneg ht.1
  have h2 := qr (n := t) (f := f) (by omega)
  have h3 := div_nn (n := t) (f := f) ht.1 (by omega)
  rw [← h1] at h2 h3
  refine con_of Try.tysOk Try.func31 rfl rfl ?_
  conv => whnf
  repeat' (first
    | ((with_reducible refine Ar.i64 ?_ ?_); (focus omega); conv => whnf)
    | ((with_reducible refine Nd.mk ?_ ?_); (focus (first | omega | rfl | assumption | (simp; done))); conv => whnf))
  all_goals (refine Is.ent ?_ ?_; (focus (exact Ent.rfl)); (refine Is.int ?_; omega))
theorem Try.clkFrame (t f : Int) (L : List HP) (ht : 0 ≤ t ∧ t ≤ 9223372036854775807) (hf : okF f) : Con Try.prog 29 [n64 t, n64 f] L (Is (.tuple #[n64 (t / f), n64 (t % f)]) L) := by
  have h1 : t.tdiv f = t / f := Int.tdiv_eq_ediv_of_nonneg ht.1
  have h4 : t.tmod f = t % f := Int.tmod_eq_emod_of_nonneg ht.1
  have h3 := div_nn (n := t) (f := f) ht.1 (by omega)
  rw [← h1] at h3
  rw [← h1, ← h4]
  refine con_of Try.tysOk Try.func29 rfl rfl ?_
  conv => whnf
  repeat' (first
    | (first | ((with_reducible refine Br.ff ?_); conv => whnf) | ((with_reducible refine Br.nt ?_); conv => whnf) | ((with_reducible refine Br.df ?_ ?_); (focus (first | assumption | omega)); conv => whnf))
    | ((with_reducible refine Ar.i64 ?_ ?_); (focus omega); conv => whnf)
    | ((with_reducible refine Nd.mk ?_ ?_); (focus (first | omega | rfl | assumption | (simp; done))); conv => whnf)
    | ((with_reducible refine Dr.by (id := 3) Try.tysOk rfl [(0, 0), (1, 0), (2, 0), (3, 0), (4, 0), (5, 0), (6, 0), (7, 0)] ?_ ?_); (focus kernel_rfl); conv => whnf)
    | ((with_reducible refine Cl.is (Con.dt hf (Try.clkRight _ _)) ?_); conv => whnf))
  all_goals (refine Is.ent ?_ ?_; (focus (exact Ent.rfl)); (exact Is.rfl))
theorem Try.clkFrameNo (t f : Int) (L : List HP) (h : ¬ (okF f ∧ 0 ≤ t)) : Con Try.prog 29 [n64 t, n64 f] L (Is (.tuple #[n64 0, n64 0]) L) := by
  by_cases hf : okF f
  · refine con_of Try.tysOk Try.func29 rfl rfl ?_
    conv => whnf
    repeat' (first
      | (first | ((with_reducible refine Br.ff ?_); conv => whnf) | ((with_reducible refine Br.nt ?_); conv => whnf) | ((with_reducible refine Br.dt ?_ ?_); (focus (first | assumption | omega)); conv => whnf))
      | ((with_reducible refine Cl.is (Con.dt hf (Try.clkRight _ _)) ?_); conv => whnf))
    all_goals (refine Is.ent ?_ ?_; (focus (exact Ent.rfl)); (exact Is.rfl))
  · refine con_of Try.tysOk Try.func29 rfl rfl ?_
    conv => whnf
    repeat' (first
      | (first | ((with_reducible refine Br.tt ?_); conv => whnf) | ((with_reducible refine Br.nf ?_); conv => whnf))
      | ((with_reducible refine Cl.is (Con.df hf (Try.clkRight _ _)) ?_); conv => whnf))
    all_goals (refine Is.ent ?_ ?_; (focus (exact Ent.rfl)); (exact Is.rfl))
abbrev atOk (k o f : Int) : Prop := okF f ∧ 0 ≤ k ∧ k ≤ 2147483647 ∧ 0 ≤ o ∧ o < f
abbrev nextOk (t o f : Int) : Prop := okF f ∧ 0 ≤ o ∧ o < f ∧ t ≤ 2147483647
/-! counts -/
theorem Try.clkBelow (t g h f : Int) (L : List HP) (ht : 0 ≤ t ∧ t ≤ 2147483647) (hf : okF f) (hg : 0 ≤ g) (hh : g < h) (hl : h ≤ f) : Con Try.prog 42 [n64 t, spV g h, n64 f] L (Is (n64 (belowF t g h f)) L) := by
  have h3 := div_nn (n := t) (f := f) ht.1 (by omega)
  have h4 := qr (n := t) (f := f) (by omega)
  have h5 := mul_bd (k := t / f) (f := h - g) (a := 2147483647) (b := 4096) h3.1 (by omega) (by omega) (by omega)
  unfold belowF
  refine con_of Try.tysOk Try.func42 rfl rfl ?_
  conv => whnf
  repeat' (first
    | ((with_reducible refine Ar.i64 ?_ ?_); (focus omega); conv => whnf)
    | ((with_reducible refine Nd.mk ?_ ?_); (focus (first | omega | rfl | assumption | (simp; done))); conv => whnf)
    | ((with_reducible refine Nc.go' (fun _ => ?_)); conv => whnf)
    | (refine Ld.at 0 rfl rfl ?_; conv => whnf)
    | ((with_reducible refine Cl.is (Try.clkFrame _ _ _ ⟨ht.1, by omega⟩ hf) ?_); conv => whnf))
  all_goals (refine Is.ent ?_ ?_; (focus (refine FEnt.ent ?_; (repeat (first | exact FEnt.rfl | refine FEnt.drop ?_)); done)); (exact Is.rfl))
abbrev cntOk (s1 s2 o1 o2 f : Int) : Prop := okF f ∧ isS s1 s2 ∧ s2 ≤ 2147483647 ∧ meetS o1 o2 0 f
theorem Try.clkCount (s1 s2 o1 o2 f : Int) (L : List HP) (h : cntOk s1 s2 o1 o2 f) : Con Try.prog 35 [spV s1 s2, spV o1 o2, n64 f] L
    (Is (n64 (belowF s2 (max o1 0) (min o2 f) f - belowF s1 (max o1 0) (min o2 f) f)) L) := by
  have hb := belowF_bd (g := max o1 0) (h := min o2 f) (f := f) (by omega) (by omega) (by unfold cntOk meetS isS okF at h; omega) (by omega) (s2 - s1).toNat s1 (by unfold cntOk meetS isS okF at h; omega)
  rw [show s1 + ((s2 - s1).toNat : Int) = s2 from by unfold cntOk meetS isS okF at h; omega] at hb
  have e : ((s2 - s1).toNat : Int) = s2 - s1 := by unfold cntOk meetS isS okF at h; omega
  rw [e] at hb
  refine con_of Try.tysOk Try.func35 rfl rfl ?_
  conv => whnf
  repeat' (first
    | (first | ((with_reducible refine Br.ff ?_); conv => whnf) | ((with_reducible refine Br.nt ?_); conv => whnf) | ((with_reducible refine Br.df ?_ ?_); (focus (first | assumption | omega)); conv => whnf))
    | ((with_reducible refine Ar.i64 ?_ ?_); (focus omega); conv => whnf)
    | ((with_reducible refine Nd.mk ?_ ?_); (focus (first | omega | rfl | assumption | (simp; done))); conv => whnf)
    | ((with_reducible refine Nc.go' (fun _ => ?_)); conv => whnf)
    | (refine Ld.at 2 rfl rfl ?_; conv => whnf)
    | (first | (refine LdN.at 0 rfl (by first | exact Nat.le_of_ble_eq_true rfl | (simp; done)) ?_; conv => whnf) | (refine LdN.at 2 rfl (by first | exact Nat.le_of_ble_eq_true rfl | (simp; done)) ?_; conv => whnf))
    | (refine St.at 0 rfl (by first | exact Nat.le_of_ble_eq_true rfl | (simp; done)) rfl ?_; conv => whnf)
    | ((with_reducible refine Dr.by (id := 4) Try.tysOk rfl [(0, 0), (3, 0), (5, 0), (8, 0), (1, 1), (2, 1), (4, 1), (6, 1), (7, 1), (9, 1), (10, 0), (11, 0)] ?_ ?_); (focus kernel_rfl); conv => whnf)
    | ((with_reducible refine CD.is (fun M => Try.clkBelow _ _ _ _ _ ⟨by unfold cntOk meetS isS okF at h; omega, by unfold cntOk meetS isS okF at h; omega⟩ h.1 (by omega) (by unfold cntOk meetS isS okF at h; omega) (by omega)) ?_); conv => whnf)
    | (first | ((with_reducible refine Cl.is (Try.spanMeetT _ _ _ _ _ h.2.2.2) ?_); conv => whnf) | ((with_reducible refine Cl.is (Con.dt h.1 (Try.clkRight _ _)) ?_); conv => whnf) | ((with_reducible refine Cl.is (Con.dt h.2.1 (Try.spanIs _ _ _)) ?_); conv => whnf)))
  all_goals (refine Is.ent ?_ ?_; (focus (refine FEnt.ent ?_; (repeat (first | exact FEnt.rfl | refine FEnt.drop ?_)); done)); (exact Is.rfl))
theorem Try.clkCountNo (s1 s2 o1 o2 f : Int) (L : List HP) (h : ¬ cntOk s1 s2 o1 o2 f) : Con Try.prog 35 [spV s1 s2, spV o1 o2, n64 f] L (Is (n64 0) L) := by
  by_cases h1 : okF f
  · by_cases h2 : isS s1 s2
    · by_cases h3 : meetS o1 o2 0 f
      · have h4 : ¬ s2 ≤ 2147483647 := fun h4 => h ⟨h1, h2, h4, h3⟩
        refine con_of Try.tysOk Try.func35 rfl rfl ?_
        conv => whnf
        repeat' (first
          | (first | ((with_reducible refine Br.tt ?_); conv => whnf) | ((with_reducible refine Br.ff ?_); conv => whnf) | ((with_reducible refine Br.nt ?_); conv => whnf) | ((with_reducible refine Br.dt ?_ ?_); (focus (first | assumption | omega)); conv => whnf))
          | ((with_reducible refine Nd.mk ?_ ?_); (focus (first | omega | rfl | assumption | (simp; done))); conv => whnf)
          | ((with_reducible refine Nc.go' (fun _ => ?_)); conv => whnf)
          | (refine Ld.at 2 rfl rfl ?_; conv => whnf)
          | (first | (refine LdN.at 0 rfl (by first | exact Nat.le_of_ble_eq_true rfl | (simp; done)) ?_; conv => whnf) | (refine LdN.at 2 rfl (by first | exact Nat.le_of_ble_eq_true rfl | (simp; done)) ?_; conv => whnf))
          | (refine St.at 0 rfl (by first | exact Nat.le_of_ble_eq_true rfl | (simp; done)) rfl ?_; conv => whnf)
          | (first | ((with_reducible refine Cl.is (Try.spanMeetT _ _ _ _ _ h3) ?_); conv => whnf) | ((with_reducible refine Cl.is (Con.dt h1 (Try.clkRight _ _)) ?_); conv => whnf) | ((with_reducible refine Cl.is (Con.dt h2 (Try.spanIs _ _ _)) ?_); conv => whnf)))
        all_goals (refine Is.ent ?_ ?_; (focus (refine FEnt.ent ?_; (repeat (first | exact FEnt.rfl | refine FEnt.drop ?_)); done)); (exact Is.rfl))
      · refine con_of Try.tysOk Try.func35 rfl rfl ?_
        conv => whnf
        repeat' (first
          | (first | ((with_reducible refine Br.tt ?_); conv => whnf) | ((with_reducible refine Br.ff ?_); conv => whnf) | ((with_reducible refine Br.nt ?_); conv => whnf) | ((with_reducible refine Br.nf ?_); conv => whnf))
          | ((with_reducible refine Nd.mk ?_ ?_); (focus (first | omega | rfl | assumption | (simp; done))); conv => whnf)
          | ((with_reducible refine Nc.go' (fun _ => ?_)); conv => whnf)
          | (refine Ld.at 2 rfl rfl ?_; conv => whnf)
          | (first | (refine LdN.at 0 rfl (by first | exact Nat.le_of_ble_eq_true rfl | (simp; done)) ?_; conv => whnf) | (refine LdN.at 2 rfl (by first | exact Nat.le_of_ble_eq_true rfl | (simp; done)) ?_; conv => whnf))
          | (refine St.at 0 rfl (by first | exact Nat.le_of_ble_eq_true rfl | (simp; done)) rfl ?_; conv => whnf)
          | (first | ((with_reducible refine Cl.is (Try.spanMeetF _ _ _ _ _ h3) ?_); conv => whnf) | ((with_reducible refine Cl.is (Con.dt h1 (Try.clkRight _ _)) ?_); conv => whnf) | ((with_reducible refine Cl.is (Con.dt h2 (Try.spanIs _ _ _)) ?_); conv => whnf))
          | ((with_reducible refine Br.ds (fun _ => ?_) (fun _ => ?_) ) <;> (conv => whnf)))
        all_goals (refine Is.ent ?_ ?_; (focus (refine FEnt.ent ?_; (repeat (first | exact FEnt.rfl | refine FEnt.drop ?_)); done)); (exact Is.rfl))
    · by_cases h3 : meetS o1 o2 0 f
      · refine con_of Try.tysOk Try.func35 rfl rfl ?_
        conv => whnf
        repeat' (first
          | (first | ((with_reducible refine Br.tt ?_); conv => whnf) | ((with_reducible refine Br.ff ?_); conv => whnf) | ((with_reducible refine Br.nt ?_); conv => whnf) | ((with_reducible refine Br.nf ?_); conv => whnf))
          | ((with_reducible refine Nd.mk ?_ ?_); (focus (first | omega | rfl | assumption | (simp; done))); conv => whnf)
          | ((with_reducible refine Nc.go' (fun _ => ?_)); conv => whnf)
          | (first | (refine LdN.at 0 rfl (by first | exact Nat.le_of_ble_eq_true rfl | (simp; done)) ?_; conv => whnf) | (refine LdN.at 2 rfl (by first | exact Nat.le_of_ble_eq_true rfl | (simp; done)) ?_; conv => whnf))
          | (refine St.at 0 rfl (by first | exact Nat.le_of_ble_eq_true rfl | (simp; done)) rfl ?_; conv => whnf)
          | (first | ((with_reducible refine Cl.is (Try.spanMeetT _ _ _ _ _ h3) ?_); conv => whnf) | ((with_reducible refine Cl.is (Con.dt h1 (Try.clkRight _ _)) ?_); conv => whnf) | ((with_reducible refine Cl.is (Con.df h2 (Try.spanIs _ _ _)) ?_); conv => whnf)))
        all_goals (refine Is.ent ?_ ?_; (focus (refine FEnt.ent ?_; (repeat (first | exact FEnt.rfl | refine FEnt.drop ?_)); done)); (exact Is.rfl))
      · refine con_of Try.tysOk Try.func35 rfl rfl ?_
        conv => whnf
        repeat' (first
          | (first | ((with_reducible refine Br.tt ?_); conv => whnf) | ((with_reducible refine Br.ff ?_); conv => whnf) | ((with_reducible refine Br.nt ?_); conv => whnf) | ((with_reducible refine Br.nf ?_); conv => whnf))
          | ((with_reducible refine Nd.mk ?_ ?_); (focus (first | omega | rfl | assumption | (simp; done))); conv => whnf)
          | ((with_reducible refine Nc.go' (fun _ => ?_)); conv => whnf)
          | (first | (refine LdN.at 0 rfl (by first | exact Nat.le_of_ble_eq_true rfl | (simp; done)) ?_; conv => whnf) | (refine LdN.at 2 rfl (by first | exact Nat.le_of_ble_eq_true rfl | (simp; done)) ?_; conv => whnf))
          | (refine St.at 0 rfl (by first | exact Nat.le_of_ble_eq_true rfl | (simp; done)) rfl ?_; conv => whnf)
          | (first | ((with_reducible refine Cl.is (Try.spanMeetF _ _ _ _ _ h3) ?_); conv => whnf) | ((with_reducible refine Cl.is (Con.dt h1 (Try.clkRight _ _)) ?_); conv => whnf) | ((with_reducible refine Cl.is (Con.df h2 (Try.spanIs _ _ _)) ?_); conv => whnf)))
        all_goals (refine Is.ent ?_ ?_; (focus (refine FEnt.ent ?_; (repeat (first | exact FEnt.rfl | refine FEnt.drop ?_)); done)); (exact Is.rfl))
  · by_cases h3 : meetS o1 o2 0 f
    · refine con_of Try.tysOk Try.func35 rfl rfl ?_
      conv => whnf
      repeat' (first
        | (first | ((with_reducible refine Br.tt ?_); conv => whnf) | ((with_reducible refine Br.nf ?_); conv => whnf))
        | ((with_reducible refine Nd.mk ?_ ?_); (focus (first | omega | rfl | assumption | (simp; done))); conv => whnf)
        | ((with_reducible refine Nc.go' (fun _ => ?_)); conv => whnf)
        | (refine LdN.at 0 rfl (by first | exact Nat.le_of_ble_eq_true rfl | (simp; done)) ?_; conv => whnf)
        | (refine St.at 0 rfl (by first | exact Nat.le_of_ble_eq_true rfl | (simp; done)) rfl ?_; conv => whnf)
        | (first | ((with_reducible refine Cl.is (Try.spanMeetT _ _ _ _ _ h3) ?_); conv => whnf) | ((with_reducible refine Cl.is (Con.df h1 (Try.clkRight _ _)) ?_); conv => whnf)))
      all_goals (refine Is.ent ?_ ?_; (focus (refine FEnt.ent ?_; (repeat (first | exact FEnt.rfl | refine FEnt.drop ?_)); done)); (exact Is.rfl))
    · refine con_of Try.tysOk Try.func35 rfl rfl ?_
      conv => whnf
      repeat' (first
        | (first | ((with_reducible refine Br.tt ?_); conv => whnf) | ((with_reducible refine Br.nf ?_); conv => whnf))
        | ((with_reducible refine Nd.mk ?_ ?_); (focus (first | omega | rfl | assumption | (simp; done))); conv => whnf)
        | ((with_reducible refine Nc.go' (fun _ => ?_)); conv => whnf)
        | (refine LdN.at 0 rfl (by first | exact Nat.le_of_ble_eq_true rfl | (simp; done)) ?_; conv => whnf)
        | (refine St.at 0 rfl (by first | exact Nat.le_of_ble_eq_true rfl | (simp; done)) rfl ?_; conv => whnf)
        | (first | ((with_reducible refine Cl.is (Try.spanMeetF _ _ _ _ _ h3) ?_); conv => whnf) | ((with_reducible refine Cl.is (Con.df h1 (Try.clkRight _ _)) ?_); conv => whnf)))
      all_goals (refine Is.ent ?_ ?_; (focus (refine FEnt.ent ?_; (repeat (first | exact FEnt.rfl | refine FEnt.drop ?_)); done)); (exact Is.rfl))
end Go.Proofs
