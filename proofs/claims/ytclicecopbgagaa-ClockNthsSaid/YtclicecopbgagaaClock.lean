/- The clock: contracts. -/
import Derived.Test.YtclicecopbgagaaClockN
set_option linter.all false
namespace Go.Proofs
open Go.Eng
set_option linter.unusedVariables false
set_option maxRecDepth 100000
set_option maxHeartbeats 800000
abbrev n64 (n : Int) : Value := .int .i64 n
theorem Try.refRight (f : Int) (L : List HP) : Con Try.prog 8 [n64 f] L (Is (.bool (decide (okF f))) L) := by
  refine con_of Try.tysOk Try.func8 rfl rfl ?_
  conv => whnf
  repeat' (first
    | (first | ((with_reducible refine Br.tt ?_); conv => whnf) | ((with_reducible refine Br.ff ?_); conv => whnf))
    | ((with_reducible refine Br.ds (fun _ => ?_) (fun _ => ?_) ) <;> (conv => whnf)))
  all_goals (refine Is.ent ?_ ?_; (focus (exact Ent.rfl)); (first | exact Is.ff (by omega) | (refine Is.dec ?_; omega)))
theorem Try.clkRight (f : Int) (L : List HP) : Con Try.prog 9 [n64 f] L (Is (.bool (decide (okF f))) L) := by
  refine con_of Try.tysOk Try.func9 rfl rfl ?_
  conv => whnf
  repeat' (first
    | (first | ((with_reducible refine Br.tt ?_); conv => whnf) | ((with_reducible refine Br.ff ?_); conv => whnf))
    | ((with_reducible refine Br.ds (fun _ => ?_) (fun _ => ?_) ) <;> (conv => whnf)))
  all_goals (refine Is.ent ?_ ?_; (focus (exact Ent.rfl)); (first | exact Is.ff (by omega) | (refine Is.dec ?_; omega)))
theorem Try.refOffset (t f : Int) (L : List HP) (ht : 0 ≤ t ∧ t ≤ 9223372036854775807) (hf : okF f) : Con Try.prog 10 [n64 t, n64 f] L (Is (n64 (t % f)) L) := by
  have h1 : t.tdiv f = t / f := Int.tdiv_eq_ediv_of_nonneg ht.1
  have h2 := qr (n := t) (f := f) (by omega)
  have h3 := div_nn (n := t) (f := f) ht.1 (by omega)
  rw [← h1] at h2 h3
  refine con_of Try.tysOk Try.func10 rfl rfl ?_
  conv => whnf
  repeat' (first
    | ((with_reducible refine Ar.i64 ?_ ?_); (focus omega); conv => whnf)
    | ((with_reducible refine Nd.mk ?_ ?_); (focus (first | omega | rfl | assumption | (simp; done))); conv => whnf))
  all_goals (refine Is.ent ?_ ?_; (focus (exact Ent.rfl)); (refine Is.int ?_; omega))
theorem Try.clkFrame (t f : Int) (L : List HP) (ht : 0 ≤ t ∧ t ≤ 9223372036854775807) (hf : okF f) : Con Try.prog 7 [n64 t, n64 f] L (Is (.tuple #[n64 (t / f), n64 (t % f)]) L) := by
  have h1 : t.tdiv f = t / f := Int.tdiv_eq_ediv_of_nonneg ht.1
  have h4 : t.tmod f = t % f := Int.tmod_eq_emod_of_nonneg ht.1
  have h3 := div_nn (n := t) (f := f) ht.1 (by omega)
  rw [← h1] at h3
  rw [← h1, ← h4]
  refine con_of Try.tysOk Try.func7 rfl rfl ?_
  conv => whnf
  repeat' (first
    | (first | ((with_reducible refine Br.ff ?_); conv => whnf) | ((with_reducible refine Br.nt ?_); conv => whnf) | ((with_reducible refine Br.df ?_ ?_); (focus (first | assumption | omega)); conv => whnf))
    | ((with_reducible refine Ar.i64 ?_ ?_); (focus omega); conv => whnf)
    | ((with_reducible refine Nd.mk ?_ ?_); (focus (first | omega | rfl | assumption | (simp; done))); conv => whnf)
    | ((with_reducible refine Dr.by (id := 3) Try.tysOk rfl [(0, 0), (1, 0), (2, 0), (3, 0), (4, 0), (5, 0), (6, 0), (7, 0)] ?_ ?_); (focus kernel_rfl); conv => whnf)
    | ((with_reducible refine Cl.is (Con.dt hf (Try.clkRight _ _)) ?_); conv => whnf))
  all_goals (refine Is.ent ?_ ?_; (focus (exact Ent.rfl)); (exact Is.rfl))
theorem Try.clkFrameNo (t f : Int) (L : List HP) (h : ¬ (okF f ∧ 0 ≤ t)) : Con Try.prog 7 [n64 t, n64 f] L (Is (.tuple #[n64 0, n64 0]) L) := by
  by_cases hf : okF f
  · refine con_of Try.tysOk Try.func7 rfl rfl ?_
    conv => whnf
    repeat' (first
      | (first | ((with_reducible refine Br.ff ?_); conv => whnf) | ((with_reducible refine Br.nt ?_); conv => whnf) | ((with_reducible refine Br.dt ?_ ?_); (focus (first | assumption | omega)); conv => whnf))
      | ((with_reducible refine Cl.is (Con.dt hf (Try.clkRight _ _)) ?_); conv => whnf))
    all_goals (refine Is.ent ?_ ?_; (focus (exact Ent.rfl)); (exact Is.rfl))
  · refine con_of Try.tysOk Try.func7 rfl rfl ?_
    conv => whnf
    repeat' (first
      | (first | ((with_reducible refine Br.tt ?_); conv => whnf) | ((with_reducible refine Br.nf ?_); conv => whnf))
      | ((with_reducible refine Cl.is (Con.df hf (Try.clkRight _ _)) ?_); conv => whnf))
    all_goals (refine Is.ent ?_ ?_; (focus (exact Ent.rfl)); (exact Is.rfl))
abbrev atOk (k o f : Int) : Prop := okF f ∧ 0 ≤ k ∧ k ≤ 2147483647 ∧ 0 ≤ o ∧ o < f
theorem Try.clkAt (k o f : Int) (L : List HP) (h : atOk k o f) : Con Try.prog 11 [n64 k, n64 o, n64 f] L (Is (n64 (k * f + o)) L) := by
  have hm := mul_bd (k := k) (f := f) h.2.1 h.2.2.1 (by omega) h.1.2
  refine con_of Try.tysOk Try.func11 rfl rfl ?_
  conv => whnf
  repeat' (first
    | (first | ((with_reducible refine Br.ff ?_); conv => whnf) | ((with_reducible refine Br.nt ?_); conv => whnf) | ((with_reducible refine Br.df ?_ ?_); (focus (first | assumption | omega)); conv => whnf))
    | ((with_reducible refine Ar.i64 ?_ ?_); (focus omega); conv => whnf)
    | ((with_reducible refine Cl.is (Con.dt h.1 (Try.clkRight _ _)) ?_); conv => whnf))
  all_goals (refine Is.ent ?_ ?_; (focus (exact Ent.rfl)); (exact Is.rfl))
theorem Try.clkAtNo (k o f : Int) (L : List HP) (h : ¬ atOk k o f) : Con Try.prog 11 [n64 k, n64 o, n64 f] L (Is (n64 (-1)) L) := by
  by_cases hf : okF f
  · refine con_of Try.tysOk Try.func11 rfl rfl ?_
    conv => whnf
    repeat' (first
      | (first | ((with_reducible refine Br.tt ?_); conv => whnf) | ((with_reducible refine Br.ff ?_); conv => whnf) | ((with_reducible refine Br.nt ?_); conv => whnf) | ((with_reducible refine Br.dt ?_ ?_); (focus (first | assumption | omega)); conv => whnf))
      | ((with_reducible refine Cl.is (Con.dt hf (Try.clkRight _ _)) ?_); conv => whnf)
      | ((with_reducible refine Br.ds (fun _ => ?_) (fun _ => ?_) ) <;> (conv => whnf)))
    all_goals (refine Is.ent ?_ ?_; (focus (exact Ent.rfl)); (exact Is.rfl))
  · refine con_of Try.tysOk Try.func11 rfl rfl ?_
    conv => whnf
    repeat' (first
      | (first | ((with_reducible refine Br.tt ?_); conv => whnf) | ((with_reducible refine Br.nf ?_); conv => whnf))
      | ((with_reducible refine Cl.is (Con.df hf (Try.clkRight _ _)) ?_); conv => whnf))
    all_goals (refine Is.ent ?_ ?_; (focus (exact Ent.rfl)); (exact Is.rfl))
abbrev nextOk (t o f : Int) : Prop := okF f ∧ 0 ≤ o ∧ o < f ∧ t ≤ 2147483647
theorem Try.clkNext (t o f : Int) (L : List HP) (ht : -9223372036854775808 ≤ t) (h : nextOk t o f) : Con Try.prog 13 [n64 t, n64 o, n64 f] L (Is (n64 (nextF (max t 0) o f)) L) := by
  by_cases h0 : 0 ≤ t
  · have h3 := div_nn (n := t) (f := f) h0 (by omega)
    have h4 := qr (n := t) (f := f) (by omega)
    have h5 := succ_mul' (t / f) f
    have e : max t 0 = t := by omega
    rw [e]
    unfold nextF
    by_cases hg : t % f > o
    · rw [if_pos hg]
      refine con_of Try.tysOk Try.func13 rfl rfl ?_
      conv => whnf
      repeat' (first
        | (first | ((with_reducible refine Br.ff ?_); conv => whnf) | ((with_reducible refine Br.nt ?_); conv => whnf) | ((with_reducible refine Br.dt ?_ ?_); (focus (first | assumption | omega)); conv => whnf) | ((with_reducible refine Br.df ?_ ?_); (focus (first | assumption | omega)); conv => whnf))
        | ((with_reducible refine Ar.i64 ?_ ?_); (focus omega); conv => whnf)
        | ((with_reducible refine Nd.mk ?_ ?_); (focus (first | omega | rfl | assumption | (simp; done))); conv => whnf)
        | (first | ((with_reducible refine Cl.is (Con.dt h.1 (Try.clkRight _ _)) ?_); conv => whnf) | ((with_reducible refine Cl.is (Try.clkFrame _ _ _ ⟨h0, by omega⟩ h.1) ?_); conv => whnf)))
      all_goals (refine Is.ent ?_ ?_; (focus (exact Ent.rfl)); (exact Is.rfl))
    · rw [if_neg hg]
      refine con_of Try.tysOk Try.func13 rfl rfl ?_
      conv => whnf
      repeat' (first
        | (first | ((with_reducible refine Br.ff ?_); conv => whnf) | ((with_reducible refine Br.nt ?_); conv => whnf) | ((with_reducible refine Br.df ?_ ?_); (focus (first | assumption | omega)); conv => whnf))
        | ((with_reducible refine Ar.i64 ?_ ?_); (focus omega); conv => whnf)
        | ((with_reducible refine Nd.mk ?_ ?_); (focus (first | omega | rfl | assumption | (simp; done))); conv => whnf)
        | (first | ((with_reducible refine Cl.is (Con.dt h.1 (Try.clkRight _ _)) ?_); conv => whnf) | ((with_reducible refine Cl.is (Try.clkFrame _ _ _ ⟨h0, by omega⟩ h.1) ?_); conv => whnf)))
      all_goals (refine Is.ent ?_ ?_; (focus (exact Ent.rfl)); (exact Is.rfl))
  · have e : nextF (max t 0) o f = o := by
      have e0 : max t 0 = 0 := by omega
      rw [e0]; unfold nextF; rw [Int.zero_emod, Int.zero_ediv, if_neg (by omega)]; omega
    have h5 : (0 : Int) * f = 0 := Int.zero_mul f
    rw [e]
    refine con_of Try.tysOk Try.func13 rfl rfl ?_
    conv => whnf
    repeat' (first
      | (first | ((with_reducible refine Br.ff ?_); conv => whnf) | ((with_reducible refine Br.nt ?_); conv => whnf) | ((with_reducible refine Br.df ?_ ?_); (focus (first | assumption | omega)); conv => whnf))
      | ((with_reducible refine Ar.i64 ?_ ?_); (focus omega); conv => whnf)
      | ((with_reducible refine Nd.mk ?_ ?_); (focus (first | omega | rfl | assumption | (simp; done))); conv => whnf)
      | (first | ((with_reducible refine Cl.is (Con.dt h.1 (Try.clkRight _ _)) ?_); conv => whnf) | ((with_reducible refine Cl.is (Try.clkFrameNo _ _ _ (by omega)) ?_); conv => whnf)))
    all_goals (refine Is.ent ?_ ?_; (focus (exact Ent.rfl)); (refine Is.int ?_; omega))
theorem Try.clkNextNo (t o f : Int) (L : List HP) (h : ¬ nextOk t o f) : Con Try.prog 13 [n64 t, n64 o, n64 f] L (Is (n64 (-1)) L) := by
  by_cases hf : okF f
  · refine con_of Try.tysOk Try.func13 rfl rfl ?_
    conv => whnf
    repeat' (first
      | (first | ((with_reducible refine Br.tt ?_); conv => whnf) | ((with_reducible refine Br.ff ?_); conv => whnf) | ((with_reducible refine Br.nt ?_); conv => whnf) | ((with_reducible refine Br.dt ?_ ?_); (focus (first | assumption | omega)); conv => whnf))
      | ((with_reducible refine Cl.is (Con.dt hf (Try.clkRight _ _)) ?_); conv => whnf)
      | ((with_reducible refine Br.ds (fun _ => ?_) (fun _ => ?_) ) <;> (conv => whnf)))
    all_goals (refine Is.ent ?_ ?_; (focus (exact Ent.rfl)); (exact Is.rfl))
  · refine con_of Try.tysOk Try.func13 rfl rfl ?_
    conv => whnf
    repeat' (first
      | (first | ((with_reducible refine Br.tt ?_); conv => whnf) | ((with_reducible refine Br.nf ?_); conv => whnf))
      | ((with_reducible refine Cl.is (Con.df hf (Try.clkRight _ _)) ?_); conv => whnf))
    all_goals (refine Is.ent ?_ ?_; (focus (exact Ent.rfl)); (exact Is.rfl))
theorem Try.refNext (t o f : Int) (L : List HP) (ht : -9223372036854775808 ≤ t) (h : nextOk t o f) : Con Try.prog 14 [n64 t, n64 o, n64 f] L (Is (n64 (nextF (max t 0) o f)) L) := by
  have hs := nextF_spec (t := max t 0) (o := o) (f := f) (by omega) (by omega) ⟨h.2.1, h.2.2.1⟩
  generalize nextF (max t 0) o f = T at *
  by_cases h0 : t < 0
  · refine con_of Try.tysOk Try.func14 rfl rfl ?_
    conv => whnf
    repeat' ((with_reducible refine Br.dt ?_ ?_); (focus (first | assumption | omega)); conv => whnf)
    conv => whnf
    refine Lp.by Try.tysOk [7] (fun (n : Int) => [n64 n]) (fun n => L) (fun n => max t 0 ≤ n ∧ n ≤ T) (fun n => (T - n).toNat) (0) (by kernel_rfl) (by (exact Ent.rfl)) (⟨by omega, by omega⟩) ?_
    rintro n ⟨h1, h2⟩
    conv => whnf
    repeat (intro _; conv => whnf)
    by_cases hn : n % f = o
    · have e : n = T := by
        by_cases hlt : n < T
        · exact (hs.2.2.2 n h1 hlt hn).elim
        · omega
      subst e
      conv => whnf
      repeat' (first
        | ((with_reducible refine Br.ndf ?_ ?_); (focus (first | assumption | omega)); conv => whnf)
        | ((with_reducible refine Cl.is (Try.refOffset _ _ _ ⟨by omega, by omega⟩ h.1) ?_); conv => whnf))
      all_goals (refine Is.ent ?_ ?_; (focus (exact Ent.rfl)); (exact Is.rfl))
    · have hlt : n < T := by
        by_cases e : n = T
        · subst e; exact (hn hs.2.1).elim
        · omega
      conv => whnf
      repeat' (first
        | ((with_reducible refine Br.ndt ?_ ?_); (focus (first | assumption | omega)); conv => whnf)
        | ((with_reducible refine Ar.i64 ?_ ?_); (focus omega); conv => whnf)
        | ((with_reducible refine Cl.is (Try.refOffset _ _ _ ⟨by omega, by omega⟩ h.1) ?_); conv => whnf))
      refine ⟨n + 1, by kernel_rfl, by (exact Ent.rfl), ⟨by omega, by omega⟩, by omega⟩
  · refine con_of Try.tysOk Try.func14 rfl rfl ?_
    conv => whnf
    repeat' ((with_reducible refine Br.df ?_ ?_); (focus (first | assumption | omega)); conv => whnf)
    conv => whnf
    refine Lp.by Try.tysOk [7] (fun (n : Int) => [n64 n]) (fun n => L) (fun n => max t 0 ≤ n ∧ n ≤ T) (fun n => (T - n).toNat) (t) (by kernel_rfl) (by (exact Ent.rfl)) (⟨by omega, by omega⟩) ?_
    rintro n ⟨h1, h2⟩
    conv => whnf
    repeat (intro _; conv => whnf)
    by_cases hn : n % f = o
    · have e : n = T := by
        by_cases hlt : n < T
        · exact (hs.2.2.2 n h1 hlt hn).elim
        · omega
      subst e
      conv => whnf
      repeat' (first
        | ((with_reducible refine Br.ndf ?_ ?_); (focus (first | assumption | omega)); conv => whnf)
        | ((with_reducible refine Cl.is (Try.refOffset _ _ _ ⟨by omega, by omega⟩ h.1) ?_); conv => whnf))
      all_goals (refine Is.ent ?_ ?_; (focus (exact Ent.rfl)); (exact Is.rfl))
    · have hlt : n < T := by
        by_cases e : n = T
        · subst e; exact (hn hs.2.1).elim
        · omega
      conv => whnf
      repeat' (first
        | ((with_reducible refine Br.ndt ?_ ?_); (focus (first | assumption | omega)); conv => whnf)
        | ((with_reducible refine Ar.i64 ?_ ?_); (focus omega); conv => whnf)
        | ((with_reducible refine Cl.is (Try.refOffset _ _ _ ⟨by omega, by omega⟩ h.1) ?_); conv => whnf))
      refine ⟨n + 1, by kernel_rfl, by (exact Ent.rfl), ⟨by omega, by omega⟩, by omega⟩
/-! counts -/
theorem Try.clkBelow (t g h f : Int) (L : List HP) (ht : 0 ≤ t ∧ t ≤ 2147483647) (hf : okF f) (hg : 0 ≤ g) (hh : g < h) (hl : h ≤ f) : Con Try.prog 26 [n64 t, spV g h, n64 f] L (Is (n64 (belowF t g h f)) L) := by
  have h3 := div_nn (n := t) (f := f) ht.1 (by omega)
  have h4 := qr (n := t) (f := f) (by omega)
  have h5 := mul_bd (k := t / f) (f := h - g) (a := 2147483647) (b := 4096) h3.1 (by omega) (by omega) (by omega)
  unfold belowF
  refine con_of Try.tysOk Try.func26 rfl rfl ?_
  conv => whnf
  repeat' (first
    | ((with_reducible refine Ar.i64 ?_ ?_); (focus omega); conv => whnf)
    | ((with_reducible refine Nd.mk ?_ ?_); (focus (first | omega | rfl | assumption | (simp; done))); conv => whnf)
    | ((with_reducible refine Nc.go' (fun b => ?_)); conv => whnf)
    | (refine Ld.at 0 rfl rfl ?_; conv => whnf)
    | ((with_reducible refine Cl.is (Try.clkFrame _ _ _ ⟨ht.1, by omega⟩ hf) ?_); conv => whnf))
  all_goals (refine Is.ent ?_ ?_; (focus (refine FEnt.ent ?_; (repeat (first | exact FEnt.rfl | refine FEnt.drop ?_)); done)); (exact Is.rfl))
abbrev cntOk (s1 s2 o1 o2 f : Int) : Prop := okF f ∧ isS s1 s2 ∧ s2 ≤ 2147483647 ∧ meetS o1 o2 0 f
theorem Try.clkCount (s1 s2 o1 o2 f : Int) (L : List HP) (h : cntOk s1 s2 o1 o2 f) : Con Try.prog 19 [spV s1 s2, spV o1 o2, n64 f] L
    (Is (n64 (belowF s2 (max o1 0) (min o2 f) f - belowF s1 (max o1 0) (min o2 f) f)) L) := by
  have hb := belowF_bd (g := max o1 0) (h := min o2 f) (f := f) (by omega) (by omega) (by unfold cntOk meetS isS okF at h; omega) (by omega) (s2 - s1).toNat s1 (by unfold cntOk meetS isS okF at h; omega)
  rw [show s1 + ((s2 - s1).toNat : Int) = s2 from by unfold cntOk meetS isS okF at h; omega] at hb
  have e : ((s2 - s1).toNat : Int) = s2 - s1 := by unfold cntOk meetS isS okF at h; omega
  rw [e] at hb
  refine con_of Try.tysOk Try.func19 rfl rfl ?_
  conv => whnf
  repeat' (first
    | (first | ((with_reducible refine Br.ff ?_); conv => whnf) | ((with_reducible refine Br.nt ?_); conv => whnf) | ((with_reducible refine Br.df ?_ ?_); (focus (first | assumption | omega)); conv => whnf))
    | ((with_reducible refine Ar.i64 ?_ ?_); (focus omega); conv => whnf)
    | ((with_reducible refine Nd.mk ?_ ?_); (focus (first | omega | rfl | assumption | (simp; done))); conv => whnf)
    | ((with_reducible refine Nc.go' (fun b => ?_)); conv => whnf)
    | (refine Ld.at 2 rfl rfl ?_; conv => whnf)
    | (first | (refine LdN.at 0 rfl (by first | exact Nat.le_of_ble_eq_true rfl | (simp; done)) ?_; conv => whnf) | (refine LdN.at 2 rfl (by first | exact Nat.le_of_ble_eq_true rfl | (simp; done)) ?_; conv => whnf))
    | (refine St.at 0 rfl (by first | exact Nat.le_of_ble_eq_true rfl | (simp; done)) rfl ?_; conv => whnf)
    | ((with_reducible refine Dr.by (id := 4) Try.tysOk rfl [(0, 0), (3, 0), (5, 0), (8, 0), (1, 1), (2, 1), (4, 1), (6, 1), (7, 1), (9, 1), (10, 0), (11, 0)] ?_ ?_); (focus kernel_rfl); conv => whnf)
    | ((with_reducible refine CD.is (fun M => Try.clkBelow _ _ _ _ _ ⟨by unfold cntOk meetS isS okF at h; omega, by unfold cntOk meetS isS okF at h; omega⟩ h.1 (by omega) (by unfold cntOk meetS isS okF at h; omega) (by omega)) ?_); conv => whnf)
    | (first | ((with_reducible refine Cl.is (Try.spanMeetT _ _ _ _ _ h.2.2.2) ?_); conv => whnf) | ((with_reducible refine Cl.is (Con.dt h.1 (Try.clkRight _ _)) ?_); conv => whnf) | ((with_reducible refine Cl.is (Con.dt h.2.1 (Try.spanIs _ _ _)) ?_); conv => whnf)))
  all_goals (refine Is.ent ?_ ?_; (focus (refine FEnt.ent ?_; (repeat (first | exact FEnt.rfl | refine FEnt.drop ?_)); done)); (exact Is.rfl))
theorem Try.clkCountNo (s1 s2 o1 o2 f : Int) (L : List HP) (h : ¬ cntOk s1 s2 o1 o2 f) : Con Try.prog 19 [spV s1 s2, spV o1 o2, n64 f] L (Is (n64 0) L) := by
  by_cases h1 : okF f
  · by_cases h2 : isS s1 s2
    · by_cases h3 : meetS o1 o2 0 f
      · have h4 : ¬ s2 ≤ 2147483647 := fun h4 => h ⟨h1, h2, h4, h3⟩
        refine con_of Try.tysOk Try.func19 rfl rfl ?_
        conv => whnf
        repeat' (first
          | (first | ((with_reducible refine Br.tt ?_); conv => whnf) | ((with_reducible refine Br.ff ?_); conv => whnf) | ((with_reducible refine Br.nt ?_); conv => whnf) | ((with_reducible refine Br.dt ?_ ?_); (focus (first | assumption | omega)); conv => whnf))
          | ((with_reducible refine Nd.mk ?_ ?_); (focus (first | omega | rfl | assumption | (simp; done))); conv => whnf)
          | ((with_reducible refine Nc.go' (fun b => ?_)); conv => whnf)
          | (refine Ld.at 2 rfl rfl ?_; conv => whnf)
          | (first | (refine LdN.at 0 rfl (by first | exact Nat.le_of_ble_eq_true rfl | (simp; done)) ?_; conv => whnf) | (refine LdN.at 2 rfl (by first | exact Nat.le_of_ble_eq_true rfl | (simp; done)) ?_; conv => whnf))
          | (refine St.at 0 rfl (by first | exact Nat.le_of_ble_eq_true rfl | (simp; done)) rfl ?_; conv => whnf)
          | (first | ((with_reducible refine Cl.is (Try.spanMeetT _ _ _ _ _ h3) ?_); conv => whnf) | ((with_reducible refine Cl.is (Con.dt h1 (Try.clkRight _ _)) ?_); conv => whnf) | ((with_reducible refine Cl.is (Con.dt h2 (Try.spanIs _ _ _)) ?_); conv => whnf)))
        all_goals (refine Is.ent ?_ ?_; (focus (refine FEnt.ent ?_; (repeat (first | exact FEnt.rfl | refine FEnt.drop ?_)); done)); (exact Is.rfl))
      · refine con_of Try.tysOk Try.func19 rfl rfl ?_
        conv => whnf
        repeat' (first
          | (first | ((with_reducible refine Br.tt ?_); conv => whnf) | ((with_reducible refine Br.ff ?_); conv => whnf) | ((with_reducible refine Br.nt ?_); conv => whnf) | ((with_reducible refine Br.nf ?_); conv => whnf))
          | ((with_reducible refine Nd.mk ?_ ?_); (focus (first | omega | rfl | assumption | (simp; done))); conv => whnf)
          | ((with_reducible refine Nc.go' (fun b => ?_)); conv => whnf)
          | (refine Ld.at 2 rfl rfl ?_; conv => whnf)
          | (first | (refine LdN.at 0 rfl (by first | exact Nat.le_of_ble_eq_true rfl | (simp; done)) ?_; conv => whnf) | (refine LdN.at 2 rfl (by first | exact Nat.le_of_ble_eq_true rfl | (simp; done)) ?_; conv => whnf))
          | (refine St.at 0 rfl (by first | exact Nat.le_of_ble_eq_true rfl | (simp; done)) rfl ?_; conv => whnf)
          | (first | ((with_reducible refine Cl.is (Try.spanMeetF _ _ _ _ _ h3) ?_); conv => whnf) | ((with_reducible refine Cl.is (Con.dt h1 (Try.clkRight _ _)) ?_); conv => whnf) | ((with_reducible refine Cl.is (Con.dt h2 (Try.spanIs _ _ _)) ?_); conv => whnf))
          | ((with_reducible refine Br.ds (fun _ => ?_) (fun _ => ?_) ) <;> (conv => whnf)))
        all_goals (refine Is.ent ?_ ?_; (focus (refine FEnt.ent ?_; (repeat (first | exact FEnt.rfl | refine FEnt.drop ?_)); done)); (exact Is.rfl))
    · by_cases h3 : meetS o1 o2 0 f
      · refine con_of Try.tysOk Try.func19 rfl rfl ?_
        conv => whnf
        repeat' (first
          | (first | ((with_reducible refine Br.tt ?_); conv => whnf) | ((with_reducible refine Br.ff ?_); conv => whnf) | ((with_reducible refine Br.nt ?_); conv => whnf) | ((with_reducible refine Br.nf ?_); conv => whnf))
          | ((with_reducible refine Nd.mk ?_ ?_); (focus (first | omega | rfl | assumption | (simp; done))); conv => whnf)
          | ((with_reducible refine Nc.go' (fun b => ?_)); conv => whnf)
          | (first | (refine LdN.at 0 rfl (by first | exact Nat.le_of_ble_eq_true rfl | (simp; done)) ?_; conv => whnf) | (refine LdN.at 2 rfl (by first | exact Nat.le_of_ble_eq_true rfl | (simp; done)) ?_; conv => whnf))
          | (refine St.at 0 rfl (by first | exact Nat.le_of_ble_eq_true rfl | (simp; done)) rfl ?_; conv => whnf)
          | (first | ((with_reducible refine Cl.is (Try.spanMeetT _ _ _ _ _ h3) ?_); conv => whnf) | ((with_reducible refine Cl.is (Con.dt h1 (Try.clkRight _ _)) ?_); conv => whnf) | ((with_reducible refine Cl.is (Con.df h2 (Try.spanIs _ _ _)) ?_); conv => whnf)))
        all_goals (refine Is.ent ?_ ?_; (focus (refine FEnt.ent ?_; (repeat (first | exact FEnt.rfl | refine FEnt.drop ?_)); done)); (exact Is.rfl))
      · refine con_of Try.tysOk Try.func19 rfl rfl ?_
        conv => whnf
        repeat' (first
          | (first | ((with_reducible refine Br.tt ?_); conv => whnf) | ((with_reducible refine Br.ff ?_); conv => whnf) | ((with_reducible refine Br.nt ?_); conv => whnf) | ((with_reducible refine Br.nf ?_); conv => whnf))
          | ((with_reducible refine Nd.mk ?_ ?_); (focus (first | omega | rfl | assumption | (simp; done))); conv => whnf)
          | ((with_reducible refine Nc.go' (fun b => ?_)); conv => whnf)
          | (first | (refine LdN.at 0 rfl (by first | exact Nat.le_of_ble_eq_true rfl | (simp; done)) ?_; conv => whnf) | (refine LdN.at 2 rfl (by first | exact Nat.le_of_ble_eq_true rfl | (simp; done)) ?_; conv => whnf))
          | (refine St.at 0 rfl (by first | exact Nat.le_of_ble_eq_true rfl | (simp; done)) rfl ?_; conv => whnf)
          | (first | ((with_reducible refine Cl.is (Try.spanMeetF _ _ _ _ _ h3) ?_); conv => whnf) | ((with_reducible refine Cl.is (Con.dt h1 (Try.clkRight _ _)) ?_); conv => whnf) | ((with_reducible refine Cl.is (Con.df h2 (Try.spanIs _ _ _)) ?_); conv => whnf)))
        all_goals (refine Is.ent ?_ ?_; (focus (refine FEnt.ent ?_; (repeat (first | exact FEnt.rfl | refine FEnt.drop ?_)); done)); (exact Is.rfl))
  · by_cases h3 : meetS o1 o2 0 f
    · refine con_of Try.tysOk Try.func19 rfl rfl ?_
      conv => whnf
      repeat' (first
        | (first | ((with_reducible refine Br.tt ?_); conv => whnf) | ((with_reducible refine Br.nf ?_); conv => whnf))
        | ((with_reducible refine Nd.mk ?_ ?_); (focus (first | omega | rfl | assumption | (simp; done))); conv => whnf)
        | ((with_reducible refine Nc.go' (fun b => ?_)); conv => whnf)
        | (refine LdN.at 0 rfl (by first | exact Nat.le_of_ble_eq_true rfl | (simp; done)) ?_; conv => whnf)
        | (refine St.at 0 rfl (by first | exact Nat.le_of_ble_eq_true rfl | (simp; done)) rfl ?_; conv => whnf)
        | (first | ((with_reducible refine Cl.is (Try.spanMeetT _ _ _ _ _ h3) ?_); conv => whnf) | ((with_reducible refine Cl.is (Con.df h1 (Try.clkRight _ _)) ?_); conv => whnf)))
      all_goals (refine Is.ent ?_ ?_; (focus (refine FEnt.ent ?_; (repeat (first | exact FEnt.rfl | refine FEnt.drop ?_)); done)); (exact Is.rfl))
    · refine con_of Try.tysOk Try.func19 rfl rfl ?_
      conv => whnf
      repeat' (first
        | (first | ((with_reducible refine Br.tt ?_); conv => whnf) | ((with_reducible refine Br.nf ?_); conv => whnf))
        | ((with_reducible refine Nd.mk ?_ ?_); (focus (first | omega | rfl | assumption | (simp; done))); conv => whnf)
        | ((with_reducible refine Nc.go' (fun b => ?_)); conv => whnf)
        | (refine LdN.at 0 rfl (by first | exact Nat.le_of_ble_eq_true rfl | (simp; done)) ?_; conv => whnf)
        | (refine St.at 0 rfl (by first | exact Nat.le_of_ble_eq_true rfl | (simp; done)) rfl ?_; conv => whnf)
        | (first | ((with_reducible refine Cl.is (Try.spanMeetF _ _ _ _ _ h3) ?_); conv => whnf) | ((with_reducible refine Cl.is (Con.df h1 (Try.clkRight _ _)) ?_); conv => whnf)))
      all_goals (refine Is.ent ?_ ?_; (focus (refine FEnt.ent ?_; (repeat (first | exact FEnt.rfl | refine FEnt.drop ?_)); done)); (exact Is.rfl))
theorem Try.refCount (s1 s2 o1 o2 f : Int) (L : List HP) (h1 : okF f) (h2 : isS s1 s2) (h3 : s2 ≤ 2147483647) (h4 : isS o1 o2) : Con Try.prog 21 [spV s1 s2, spV o1 o2, n64 f] L
    (Is (n64 (belowF s2 (min o1 f) (min o2 f) f - belowF s1 (min o1 f) (min o2 f) f)) L) := by
  refine con_of Try.tysOk Try.func21 rfl rfl ?_
  conv => whnf
  refine Nc.go' (fun p1 => ?_)
  conv => whnf
  refine Nc.go' (fun p2 => ?_)
  conv => whnf
  repeat' (refine Ld.at 1 rfl rfl ?_; conv => whnf)
  conv => whnf
  refine Lp.by2 Try.tysOk [8, 7] (fun (t : Int) (n : Int) => [n64 t, n64 n]) (fun t n => ptc p2 36 [n64 o1, n64 o2] :: ptc p1 36 [n64 s1, n64 s2] :: L) (fun t n => s1 ≤ t ∧ t ≤ s2 ∧ n = belowF t (min o1 f) (min o2 f) f - belowF s1 (min o1 f) (min o2 f) f) (fun t n => (s2 - t).toNat) (s1) (0) (by kernel_rfl) (by (exact Ent.rfl)) (⟨by omega, by omega, by omega⟩) ?_
  rintro t n ⟨g1, g2, g3⟩
  conv => whnf
  repeat (intro _; conv => whnf)
  have hb := belowF_bd (g := min o1 f) (h := min o2 f) (f := f) (by omega) (by omega) (by omega) (by omega) (t - s1).toNat s1 (by omega)
  rw [show s1 + ((t - s1).toNat : Int) = t from by omega] at hb
  by_cases ht : t < s2
  · have hs := belowF_step (t := t) (g := min o1 f) (h := min o2 f) (f := f) (by omega) (by omega) (by omega) (by omega) (by omega)
    have hm := qr (n := t) (f := f) (by omega)
    by_cases hh : 0 ≤ o1 ∧ o1 ≤ t % f ∧ t % f < o2
    · rw [if_pos (by omega)] at hs
      conv => whnf
      repeat' (first
        | (first | ((with_reducible refine Br.tt ?_); conv => whnf) | ((with_reducible refine Br.dt ?_ ?_); (focus (first | assumption | omega)); conv => whnf))
        | ((with_reducible refine Ar.i64 ?_ ?_); (focus omega); conv => whnf)
        | (refine Ld.at 1 rfl rfl ?_; conv => whnf)
        | (refine LdN.at 0 rfl (by first | exact Nat.le_of_ble_eq_true rfl | (simp; done)) ?_; conv => whnf)
        | ((with_reducible refine Dr.by (id := 5) Try.tysOk rfl [(1, 0), (2, 0), (0, 1), (3, 1), (4, 1)] ?_ ?_); (focus kernel_rfl); conv => whnf)
        | (first | ((with_reducible refine CD.is (fun M => Try.refOffset _ _ _ ⟨by omega, by omega⟩ h1) ?_); conv => whnf) | ((with_reducible refine CD.is (fun M => Con.dt hh (Try.refHolds _ _ _ _)) ?_); conv => whnf)))
      refine ⟨t + 1, n + 1, by kernel_rfl, by (exact Ent.rfl), ⟨by omega, by omega, by omega⟩, by omega⟩
    · rw [if_neg (by omega)] at hs
      conv => whnf
      repeat' (first
        | (first | ((with_reducible refine Br.ff ?_); conv => whnf) | ((with_reducible refine Br.dt ?_ ?_); (focus (first | assumption | omega)); conv => whnf))
        | ((with_reducible refine Ar.i64 ?_ ?_); (focus omega); conv => whnf)
        | (refine Ld.at 1 rfl rfl ?_; conv => whnf)
        | (refine LdN.at 0 rfl (by first | exact Nat.le_of_ble_eq_true rfl | (simp; done)) ?_; conv => whnf)
        | ((with_reducible refine Dr.by (id := 5) Try.tysOk rfl [(1, 0), (2, 0), (0, 1), (3, 1), (4, 1)] ?_ ?_); (focus kernel_rfl); conv => whnf)
        | (first | ((with_reducible refine CD.is (fun M => Try.refOffset _ _ _ ⟨by omega, by omega⟩ h1) ?_); conv => whnf) | ((with_reducible refine CD.is (fun M => Con.df hh (Try.refHolds _ _ _ _)) ?_); conv => whnf)))
      refine ⟨t + 1, n, by kernel_rfl, by (exact Ent.rfl), ⟨by omega, by omega, by omega⟩, by omega⟩
  · have e : t = s2 := by omega
    subst e
    conv => whnf
    repeat' (first
      | ((with_reducible refine Br.df ?_ ?_); (focus (first | assumption | omega)); conv => whnf)
      | (refine Ld.at 1 rfl rfl ?_; conv => whnf))
    all_goals (refine Is.ent ?_ ?_; (focus (refine FEnt.ent ?_; (repeat (first | exact FEnt.rfl | refine FEnt.drop ?_)); done)); (refine Is.int ?_; omega))
end Go.Proofs
