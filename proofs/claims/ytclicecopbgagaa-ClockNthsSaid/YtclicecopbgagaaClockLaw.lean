/- The clock's laws. -/
import Derived.Test.YtclicecopbgagaaClockNth
set_option linter.all false
namespace Go.Proofs
open Go.Eng
set_option linter.unusedVariables false
set_option maxRecDepth 100000
set_option maxHeartbeats 2000000
theorem live_nth {T : Int} (h : NthP [(4, 6)] 10 0 3 T) : T = 14 := by
  have hm : mergeF [(4, 6)] = [(4, 6)] := by
    refine mergeF_eq ?_ fun n => Iff.rfl
    rw [canon_cons]
    exact ⟨by decide, by simp, canon_nil⟩
  have h1 := h.yes ⟨4, by omega, by omega, ⟨(4, 6), by simp, by decide⟩⟩
  rw [hm] at h1
  refine h1.uniq (U := 14) ⟨by omega, ?_, by decide⟩ ?_ (by omega)
  · exact ⟨(4, 6), by decide, by decide⟩
  · refine meetI_canon ?_
    rw [canon_cons]
    exact ⟨by decide, by simp, canon_nil⟩
theorem Try.clkLive (L : List HP) : Con Try.prog 12 [] L (Is (.bool true) L) := by
  have e : nextF (max 37 0) 5 10 = 45 := by decide
  refine con_of Try.tysOk Try.func12 rfl rfl ?_
  conv => whnf
  repeat' (first
    | (first | ((with_reducible refine Br.tt ?_); conv => whnf) | ((with_reducible refine Br.dt ?_ ?_); (focus (first | assumption | omega)); conv => whnf))
    | ((with_reducible refine Nd.mk ?_ ?_); (focus (first | omega | rfl | assumption | (simp; done))); conv => whnf)
    | ((with_reducible refine Nc.go' (fun b => ?_)); conv => whnf)
    | (first | ((with_reducible refine Cl.is (Try.clkFrame 37 10 _ ⟨by omega, by omega⟩ ⟨by omega, by omega⟩) ?_); conv => whnf) | ((with_reducible refine Cl.is (Try.clkAt 3 7 10 _ ⟨⟨by omega, by omega⟩, by omega, by omega, by omega, by omega⟩) ?_); conv => whnf) | ((with_reducible refine Cl.is (Try.clkNext 37 5 10 _ (by omega) ⟨⟨by omega, by omega⟩, by omega, by omega, by omega⟩) ?_); conv => whnf) | ((with_reducible refine Cl.is (Try.clkRight _ _) ?_); conv => whnf))
    | ((refine Cl.exs (Try.clkNth 0 3 10 _ _ [(4, 6)] _ ⟨⟨by omega, by omega⟩, by omega, by omega, by omega, by omega⟩ (by decide) (Rd.ptc 0 rfl _ rfl)) (fun T hT => ?_); have eT := live_nth hT; subst eT); conv => whnf))
  all_goals (refine Is.ent ?_ ?_; (focus (refine FEnt.ent ?_; (repeat (first | exact FEnt.rfl | refine FEnt.drop ?_)); done)); (exact Is.rfl))
theorem Try.clockFramesLaw (t k o f : Int) (L : List HP) (ht : -9223372036854775808 ≤ t ∧ t ≤ 9223372036854775807) : Con Try.prog 3 [n64 t, n64 k, n64 o, n64 f] L (Is (.bool true) L) := by
  by_cases hf : okF f
  · have hq := qr (n := t) (f := f) (by omega)
    by_cases h0 : 0 ≤ t
    · have hd := div_nn (n := t) (f := f) h0 (by omega)
      have e1 : t.tdiv f = t / f := Int.tdiv_eq_ediv_of_nonneg h0
      by_cases ha : atOk k o f
      · have hm := mul_bd (k := k) (f := f) ha.2.1 ha.2.2.1 (by omega) hf.2
        have hdv := div_of (n := k * f + o) (k := k) (f := f) (by omega) (by omega)
        by_cases hb : t / f ≤ 2147483647
        · refine con_of Try.tysOk Try.func3 rfl rfl ?_
          conv => whnf
          repeat' (first
            | (first | ((with_reducible refine Br.tt ?_); conv => whnf) | ((with_reducible refine Br.ff ?_); conv => whnf) | ((with_reducible refine Br.nt ?_); conv => whnf) | ((with_reducible refine Br.dt ?_ ?_); (focus (first | assumption | omega)); conv => whnf) | ((with_reducible refine Br.df ?_ ?_); (focus (first | assumption | omega)); conv => whnf) | ((with_reducible refine Br.ndf ?_ ?_); (focus (first | assumption | omega)); conv => whnf) | ((with_reducible refine Br.nef ?_ ?_); (focus (first | rfl | assumption)); conv => whnf))
            | ((with_reducible refine Ar.i64 ?_ ?_); (focus omega); conv => whnf)
            | ((with_reducible refine Nd.mk ?_ ?_); (focus (first | omega | rfl | assumption | (simp; done))); conv => whnf)
            | (first | ((with_reducible refine Cl.is (Try.clkFrame _ _ _ ⟨by omega, by omega⟩ hf) ?_); conv => whnf) | ((with_reducible refine Cl.is (Con.dt hf (Try.refRight _ _)) ?_); conv => whnf) | ((with_reducible refine Cl.is (Con.dt hf (Try.clkRight _ _)) ?_); conv => whnf) | ((with_reducible refine Cl.is (Try.refOffset _ _ _ ⟨by omega, by omega⟩ hf) ?_); conv => whnf) | ((with_reducible refine Cl.is (Try.clkAt (t / f) _ _ _ ⟨hf, by omega, by omega, by omega, by omega⟩) ?_); conv => whnf) | ((with_reducible refine Cl.is (Try.clkAt k o f _ ha) ?_); conv => whnf) | ((with_reducible refine Cl.is (Try.clkLive _) ?_); conv => whnf)))
          all_goals (refine Is.ent ?_ ?_; (focus (exact Ent.rfl)); (exact Is.ttr (by first | assumption | omega)))
        · refine con_of Try.tysOk Try.func3 rfl rfl ?_
          conv => whnf
          repeat' (first
            | (first | ((with_reducible refine Br.tt ?_); conv => whnf) | ((with_reducible refine Br.ff ?_); conv => whnf) | ((with_reducible refine Br.nt ?_); conv => whnf) | ((with_reducible refine Br.dt ?_ ?_); (focus (first | assumption | omega)); conv => whnf) | ((with_reducible refine Br.df ?_ ?_); (focus (first | assumption | omega)); conv => whnf) | ((with_reducible refine Br.ndf ?_ ?_); (focus (first | assumption | omega)); conv => whnf) | ((with_reducible refine Br.nef ?_ ?_); (focus (first | rfl | assumption)); conv => whnf))
            | ((with_reducible refine Ar.i64 ?_ ?_); (focus omega); conv => whnf)
            | ((with_reducible refine Nd.mk ?_ ?_); (focus (first | omega | rfl | assumption | (simp; done))); conv => whnf)
            | (first | ((with_reducible refine Cl.is (Try.clkFrame _ _ _ ⟨by omega, by omega⟩ hf) ?_); conv => whnf) | ((with_reducible refine Cl.is (Con.dt hf (Try.refRight _ _)) ?_); conv => whnf) | ((with_reducible refine Cl.is (Con.dt hf (Try.clkRight _ _)) ?_); conv => whnf) | ((with_reducible refine Cl.is (Try.refOffset _ _ _ ⟨by omega, by omega⟩ hf) ?_); conv => whnf) | ((with_reducible refine Cl.is (Try.clkAt k o f _ ha) ?_); conv => whnf) | ((with_reducible refine Cl.is (Try.clkLive _) ?_); conv => whnf)))
          all_goals (refine Is.ent ?_ ?_; (focus (exact Ent.rfl)); (exact Is.ttr (by first | assumption | omega)))
      · by_cases hb : t / f ≤ 2147483647
        · refine con_of Try.tysOk Try.func3 rfl rfl ?_
          conv => whnf
          repeat' (first
            | (first | ((with_reducible refine Br.tt ?_); conv => whnf) | ((with_reducible refine Br.ff ?_); conv => whnf) | ((with_reducible refine Br.nt ?_); conv => whnf) | ((with_reducible refine Br.dt ?_ ?_); (focus (first | assumption | omega)); conv => whnf) | ((with_reducible refine Br.df ?_ ?_); (focus (first | assumption | omega)); conv => whnf) | ((with_reducible refine Br.ndf ?_ ?_); (focus (first | assumption | omega)); conv => whnf) | ((with_reducible refine Br.nef ?_ ?_); (focus (first | rfl | assumption)); conv => whnf))
            | ((with_reducible refine Ar.i64 ?_ ?_); (focus omega); conv => whnf)
            | ((with_reducible refine Nd.mk ?_ ?_); (focus (first | omega | rfl | assumption | (simp; done))); conv => whnf)
            | (first | ((with_reducible refine Cl.is (Try.clkFrame _ _ _ ⟨by omega, by omega⟩ hf) ?_); conv => whnf) | ((with_reducible refine Cl.is (Con.dt hf (Try.refRight _ _)) ?_); conv => whnf) | ((with_reducible refine Cl.is (Con.dt hf (Try.clkRight _ _)) ?_); conv => whnf) | ((with_reducible refine Cl.is (Try.refOffset _ _ _ ⟨by omega, by omega⟩ hf) ?_); conv => whnf) | ((with_reducible refine Cl.is (Try.clkAt (t / f) _ _ _ ⟨hf, by omega, by omega, by omega, by omega⟩) ?_); conv => whnf) | ((with_reducible refine Cl.is (Try.clkAtNo k o f _ ha) ?_); conv => whnf) | ((with_reducible refine Cl.is (Try.clkLive _) ?_); conv => whnf))
            | ((rw [e1]); conv => whnf)
            | ((with_reducible refine Br.ds (fun _ => ?_) (fun _ => ?_) ) <;> (conv => whnf)))
          all_goals (refine Is.ent ?_ ?_; (focus (exact Ent.rfl)); (exact Is.rfl))
        · refine con_of Try.tysOk Try.func3 rfl rfl ?_
          conv => whnf
          repeat' (first
            | (first | ((with_reducible refine Br.tt ?_); conv => whnf) | ((with_reducible refine Br.ff ?_); conv => whnf) | ((with_reducible refine Br.nt ?_); conv => whnf) | ((with_reducible refine Br.dt ?_ ?_); (focus (first | assumption | omega)); conv => whnf) | ((with_reducible refine Br.df ?_ ?_); (focus (first | assumption | omega)); conv => whnf) | ((with_reducible refine Br.ndf ?_ ?_); (focus (first | assumption | omega)); conv => whnf) | ((with_reducible refine Br.nef ?_ ?_); (focus (first | rfl | assumption)); conv => whnf))
            | ((with_reducible refine Ar.i64 ?_ ?_); (focus omega); conv => whnf)
            | ((with_reducible refine Nd.mk ?_ ?_); (focus (first | omega | rfl | assumption | (simp; done))); conv => whnf)
            | (first | ((with_reducible refine Cl.is (Try.clkFrame _ _ _ ⟨by omega, by omega⟩ hf) ?_); conv => whnf) | ((with_reducible refine Cl.is (Con.dt hf (Try.refRight _ _)) ?_); conv => whnf) | ((with_reducible refine Cl.is (Con.dt hf (Try.clkRight _ _)) ?_); conv => whnf) | ((with_reducible refine Cl.is (Try.refOffset _ _ _ ⟨by omega, by omega⟩ hf) ?_); conv => whnf) | ((with_reducible refine Cl.is (Try.clkAtNo k o f _ ha) ?_); conv => whnf) | ((with_reducible refine Cl.is (Try.clkLive _) ?_); conv => whnf))
            | ((rw [e1]); conv => whnf)
            | ((with_reducible refine Br.ds (fun _ => ?_) (fun _ => ?_) ) <;> (conv => whnf)))
          all_goals (refine Is.ent ?_ ?_; (focus (exact Ent.rfl)); (exact Is.rfl))
    · by_cases ha : atOk k o f
      · have hm := mul_bd (k := k) (f := f) ha.2.1 ha.2.2.1 (by omega) hf.2
        have hdv := div_of (n := k * f + o) (k := k) (f := f) (by omega) (by omega)
        refine con_of Try.tysOk Try.func3 rfl rfl ?_
        conv => whnf
        repeat' (first
          | (first | ((with_reducible refine Br.tt ?_); conv => whnf) | ((with_reducible refine Br.ff ?_); conv => whnf) | ((with_reducible refine Br.nt ?_); conv => whnf) | ((with_reducible refine Br.dt ?_ ?_); (focus (first | assumption | omega)); conv => whnf) | ((with_reducible refine Br.df ?_ ?_); (focus (first | assumption | omega)); conv => whnf) | ((with_reducible refine Br.ndf ?_ ?_); (focus (first | assumption | omega)); conv => whnf) | ((with_reducible refine Br.nef ?_ ?_); (focus (first | rfl | assumption)); conv => whnf))
          | ((with_reducible refine Nd.mk ?_ ?_); (focus (first | omega | rfl | assumption | (simp; done))); conv => whnf)
          | (first | ((with_reducible refine Cl.is (Try.clkFrameNo t f _ (by omega)) ?_); conv => whnf) | ((with_reducible refine Cl.is (Try.clkFrame _ _ _ ⟨by omega, by omega⟩ hf) ?_); conv => whnf) | ((with_reducible refine Cl.is (Con.dt hf (Try.refRight _ _)) ?_); conv => whnf) | ((with_reducible refine Cl.is (Con.dt hf (Try.clkRight _ _)) ?_); conv => whnf) | ((with_reducible refine Cl.is (Try.clkAt k o f _ ha) ?_); conv => whnf) | ((with_reducible refine Cl.is (Try.clkLive _) ?_); conv => whnf)))
        all_goals (refine Is.ent ?_ ?_; (focus (exact Ent.rfl)); (exact Is.ttr (by first | assumption | omega)))
      · refine con_of Try.tysOk Try.func3 rfl rfl ?_
        conv => whnf
        repeat' (first
          | (first | ((with_reducible refine Br.tt ?_); conv => whnf) | ((with_reducible refine Br.ff ?_); conv => whnf) | ((with_reducible refine Br.nt ?_); conv => whnf) | ((with_reducible refine Br.dt ?_ ?_); (focus (first | assumption | omega)); conv => whnf) | ((with_reducible refine Br.ndf ?_ ?_); (focus (first | assumption | omega)); conv => whnf) | ((with_reducible refine Br.nef ?_ ?_); (focus (first | rfl | assumption)); conv => whnf))
          | ((with_reducible refine Nd.mk ?_ ?_); (focus (first | omega | rfl | assumption | (simp; done))); conv => whnf)
          | (first | ((with_reducible refine Cl.is (Try.clkFrameNo t f _ (by omega)) ?_); conv => whnf) | ((with_reducible refine Cl.is (Con.dt hf (Try.refRight _ _)) ?_); conv => whnf) | ((with_reducible refine Cl.is (Con.dt hf (Try.clkRight _ _)) ?_); conv => whnf) | ((with_reducible refine Cl.is (Try.clkAtNo k o f _ ha) ?_); conv => whnf) | ((with_reducible refine Cl.is (Try.clkLive _) ?_); conv => whnf))
          | ((with_reducible refine Br.ds (fun _ => ?_) (fun _ => ?_) ) <;> (conv => whnf)))
        all_goals (refine Is.ent ?_ ?_; (focus (exact Ent.rfl)); (exact Is.rfl))
  · refine con_of Try.tysOk Try.func3 rfl rfl ?_
    conv => whnf
    repeat' (first
      | (first | ((with_reducible refine Br.tt ?_); conv => whnf) | ((with_reducible refine Br.ff ?_); conv => whnf) | ((with_reducible refine Br.nf ?_); conv => whnf) | ((with_reducible refine Br.ndf ?_ ?_); (focus (first | assumption | omega)); conv => whnf) | ((with_reducible refine Br.nef ?_ ?_); (focus (first | rfl | assumption)); conv => whnf))
      | ((with_reducible refine Nd.mk ?_ ?_); (focus (first | omega | rfl | assumption | (simp; done))); conv => whnf)
      | (first | ((with_reducible refine Cl.is (Try.clkFrameNo t f _ (by omega)) ?_); conv => whnf) | ((with_reducible refine Cl.is (Con.df hf (Try.refRight _ _)) ?_); conv => whnf) | ((with_reducible refine Cl.is (Con.df hf (Try.clkRight _ _)) ?_); conv => whnf) | ((with_reducible refine Cl.is (Try.clkAtNo k o f _ (by omega)) ?_); conv => whnf) | ((with_reducible refine Cl.is (Try.clkLive _) ?_); conv => whnf)))
    all_goals (refine Is.ent ?_ ?_; (focus (exact Ent.rfl)); (exact Is.rfl))
theorem Try.clockNextLaw (t o f : Int) (L : List HP) (ht : -9223372036854775808 ≤ t ∧ t ≤ 9223372036854775807) : Con Try.prog 4 [n64 t, n64 o, n64 f] L (Is (.bool true) L) := by
  by_cases h : nextOk t o f
  · have hs := nextF_spec (t := max t 0) (o := o) (f := f) (by omega) (by omega) ⟨h.2.1, h.2.2.1⟩
    have c1 := Try.clkNext t o f
    have c2 := Try.refNext t o f
    generalize nextF (max t 0) o f = T at *
    refine con_of Try.tysOk Try.func4 rfl rfl ?_
    conv => whnf
    repeat' (first
      | (first | ((with_reducible refine Br.tt ?_); conv => whnf) | ((with_reducible refine Br.ff ?_); conv => whnf) | ((with_reducible refine Br.nt ?_); conv => whnf) | ((with_reducible refine Br.dt ?_ ?_); (focus (first | assumption | omega)); conv => whnf) | ((with_reducible refine Br.df ?_ ?_); (focus (first | assumption | omega)); conv => whnf))
      | ((with_reducible refine Ar.i64 ?_ ?_); (focus omega); conv => whnf)
      | (first | ((with_reducible refine Cl.is (c1 _ ht.1 h) ?_); conv => whnf) | ((with_reducible refine Cl.is (c2 _ ht.1 h) ?_); conv => whnf) | ((with_reducible refine Cl.is (Con.dt h.1 (Try.refRight _ _)) ?_); conv => whnf) | ((with_reducible refine Cl.is (Try.clkLive _) ?_); conv => whnf)))
    all_goals (refine Is.ent ?_ ?_; (focus (exact Ent.rfl)); (exact Is.ttr (by first | assumption | omega)))
  · by_cases hf : okF f
    · refine con_of Try.tysOk Try.func4 rfl rfl ?_
      conv => whnf
      repeat' (first
        | (first | ((with_reducible refine Br.tt ?_); conv => whnf) | ((with_reducible refine Br.ff ?_); conv => whnf) | ((with_reducible refine Br.nt ?_); conv => whnf) | ((with_reducible refine Br.dt ?_ ?_); (focus (first | assumption | omega)); conv => whnf))
        | (first | ((with_reducible refine Cl.is (Try.clkNextNo _ _ _ _ h) ?_); conv => whnf) | ((with_reducible refine Cl.is (Con.dt hf (Try.refRight _ _)) ?_); conv => whnf) | ((with_reducible refine Cl.is (Try.clkLive _) ?_); conv => whnf))
        | ((with_reducible refine Br.ds (fun _ => ?_) (fun _ => ?_) ) <;> (conv => whnf)))
      all_goals (refine Is.ent ?_ ?_; (focus (exact Ent.rfl)); (exact Is.rfl))
    · refine con_of Try.tysOk Try.func4 rfl rfl ?_
      conv => whnf
      repeat' (first
        | (first | ((with_reducible refine Br.tt ?_); conv => whnf) | ((with_reducible refine Br.nf ?_); conv => whnf))
        | (first | ((with_reducible refine Cl.is (Try.clkNextNo _ _ _ _ h) ?_); conv => whnf) | ((with_reducible refine Cl.is (Con.df hf (Try.refRight _ _)) ?_); conv => whnf) | ((with_reducible refine Cl.is (Try.clkLive _) ?_); conv => whnf)))
      all_goals (refine Is.ent ?_ ?_; (focus (exact Ent.rfl)); (exact Is.rfl))
theorem Try.clockCountsLaw (s1 s2 o1 o2 f : Int) (L : List HP) (hs1 : -9223372036854775808 ≤ s1 ∧ s1 ≤ 9223372036854775807) (hs2 : -9223372036854775808 ≤ s2 ∧ s2 ≤ 9223372036854775807) :
    Con Try.prog 6 [spV s1 s2, spV o1 o2, n64 f] L (Is (.bool true) L) := by
  by_cases hf : okF f
  · by_cases h2 : isS s1 s2
    · by_cases h3 : s2 ≤ 2147483647
      · by_cases h4 : isS o1 o2
        · have cr := Try.refCount s1 s2 o1 o2 f
          by_cases hm : meetS o1 o2 0 f
          · have hb := belowF_bd (g := max o1 0) (h := min o2 f) (f := f) (by omega) (by omega) (by omega) (by omega) (s2 - s1).toNat s1 (by omega)
            rw [show s1 + ((s2 - s1).toNat : Int) = s2 from by omega, show ((s2 - s1).toNat : Int) = s2 - s1 from by omega] at hb
            have c := Try.clkCount s1 s2 o1 o2 f
            have e : min o1 f = max o1 0 := by omega
            rw [e] at cr
            generalize belowF s2 (max o1 0) (min o2 f) f = U at *
            generalize belowF s1 (max o1 0) (min o2 f) f = V at *
            refine con_of Try.tysOk Try.func6 rfl rfl ?_
            conv => whnf
            repeat' (first
              | (first | ((with_reducible refine Br.tt ?_); conv => whnf) | ((with_reducible refine Br.ff ?_); conv => whnf) | ((with_reducible refine Br.nt ?_); conv => whnf) | ((with_reducible refine Br.dt ?_ ?_); (focus (first | assumption | omega)); conv => whnf) | ((with_reducible refine Br.df ?_ ?_); (focus (first | assumption | omega)); conv => whnf))
              | ((with_reducible refine Ar.i64 ?_ ?_); (focus omega); conv => whnf)
              | ((with_reducible refine Nc.go' (fun b => ?_)); conv => whnf)
              | (refine Ld.at 1 rfl rfl ?_; conv => whnf)
              | (first | (refine LdN.at 0 rfl (by first | exact Nat.le_of_ble_eq_true rfl | (simp; done)) ?_; conv => whnf) | (refine LdN.at 1 rfl (by first | exact Nat.le_of_ble_eq_true rfl | (simp; done)) ?_; conv => whnf))
              | (first | ((with_reducible refine Cl.is (c _ ⟨hf, h2, h3, hm⟩) ?_); conv => whnf) | ((with_reducible refine Cl.is (cr _ hf h2 h3 h4) ?_); conv => whnf) | ((with_reducible refine Cl.is (Con.dt hf (Try.refRight _ _)) ?_); conv => whnf) | ((with_reducible refine Cl.is (Con.dt h2 (Try.refIs s1 s2 _)) ?_); conv => whnf) | ((with_reducible refine Cl.is (Con.dt h4 (Try.refIs o1 o2 _)) ?_); conv => whnf) | ((with_reducible refine Cl.is (Try.clkLive _) ?_); conv => whnf))
              | ((with_reducible refine Br.ds (fun _ => ?_) (fun _ => ?_) ) <;> (conv => whnf)))
            all_goals (refine Is.ent ?_ ?_; (focus (refine FEnt.ent ?_; (repeat (first | exact FEnt.rfl | refine FEnt.drop ?_)); done)); (exact Is.ttr (by first | assumption | omega)))
          · have e0 : belowF s2 (min o1 f) (min o2 f) f - belowF s1 (min o1 f) (min o2 f) f = 0 := by
              have e1 : min o1 f = f := by omega
              have e2 : min o2 f = f := by omega
              rw [e1, e2]
              unfold belowF
              rw [Int.sub_self, Int.mul_zero, Int.mul_zero]
              omega
            rw [e0] at cr
            refine con_of Try.tysOk Try.func6 rfl rfl ?_
            conv => whnf
            repeat' (first
              | (first | ((with_reducible refine Br.tt ?_); conv => whnf) | ((with_reducible refine Br.ff ?_); conv => whnf) | ((with_reducible refine Br.nt ?_); conv => whnf) | ((with_reducible refine Br.dt ?_ ?_); (focus (first | assumption | omega)); conv => whnf) | ((with_reducible refine Br.df ?_ ?_); (focus (first | assumption | omega)); conv => whnf))
              | ((with_reducible refine Ar.i64 ?_ ?_); (focus omega); conv => whnf)
              | ((with_reducible refine Nc.go' (fun b => ?_)); conv => whnf)
              | (refine Ld.at 1 rfl rfl ?_; conv => whnf)
              | (first | (refine LdN.at 0 rfl (by first | exact Nat.le_of_ble_eq_true rfl | (simp; done)) ?_; conv => whnf) | (refine LdN.at 1 rfl (by first | exact Nat.le_of_ble_eq_true rfl | (simp; done)) ?_; conv => whnf))
              | (first | ((with_reducible refine Cl.is (Try.clkCountNo s1 s2 o1 o2 f _ (mt (fun h => h.2.2.2) hm)) ?_); conv => whnf) | ((with_reducible refine Cl.is (cr _ hf h2 h3 h4) ?_); conv => whnf) | ((with_reducible refine Cl.is (Con.dt hf (Try.refRight _ _)) ?_); conv => whnf) | ((with_reducible refine Cl.is (Con.dt h2 (Try.refIs s1 s2 _)) ?_); conv => whnf) | ((with_reducible refine Cl.is (Con.dt h4 (Try.refIs o1 o2 _)) ?_); conv => whnf) | ((with_reducible refine Cl.is (Try.clkLive _) ?_); conv => whnf))
              | ((with_reducible refine Br.ds (fun _ => ?_) (fun _ => ?_) ) <;> (conv => whnf)))
            all_goals (refine Is.ent ?_ ?_; (focus (refine FEnt.ent ?_; (repeat (first | exact FEnt.rfl | refine FEnt.drop ?_)); done)); (first | exact Is.rfl | exact Is.ttr (by first | assumption | omega)))
        · refine con_of Try.tysOk Try.func6 rfl rfl ?_
          conv => whnf
          repeat' (first
            | (first | ((with_reducible refine Br.tt ?_); conv => whnf) | ((with_reducible refine Br.ff ?_); conv => whnf) | ((with_reducible refine Br.nt ?_); conv => whnf) | ((with_reducible refine Br.nf ?_); conv => whnf) | ((with_reducible refine Br.df ?_ ?_); (focus (first | assumption | omega)); conv => whnf))
            | ((with_reducible refine Nc.go' (fun b => ?_)); conv => whnf)
            | (refine Ld.at 1 rfl rfl ?_; conv => whnf)
            | (first | (refine LdN.at 0 rfl (by first | exact Nat.le_of_ble_eq_true rfl | (simp; done)) ?_; conv => whnf) | (refine LdN.at 1 rfl (by first | exact Nat.le_of_ble_eq_true rfl | (simp; done)) ?_; conv => whnf))
            | (first | ((with_reducible refine Cl.is (Try.clkCountNo s1 s2 o1 o2 f _ (mt (fun h => h.2.2.2.1) h4)) ?_); conv => whnf) | ((with_reducible refine Cl.is (Con.dt hf (Try.refRight _ _)) ?_); conv => whnf) | ((with_reducible refine Cl.is (Con.dt h2 (Try.refIs s1 s2 _)) ?_); conv => whnf) | ((with_reducible refine Cl.is (Con.df h4 (Try.refIs o1 o2 _)) ?_); conv => whnf) | ((with_reducible refine Cl.is (Try.clkLive _) ?_); conv => whnf)))
          all_goals (refine Is.ent ?_ ?_; (focus (refine FEnt.ent ?_; (repeat (first | exact FEnt.rfl | refine FEnt.drop ?_)); done)); (exact Is.rfl))
      · refine con_of Try.tysOk Try.func6 rfl rfl ?_
        conv => whnf
        repeat' (first
          | (first | ((with_reducible refine Br.tt ?_); conv => whnf) | ((with_reducible refine Br.ff ?_); conv => whnf) | ((with_reducible refine Br.nt ?_); conv => whnf) | ((with_reducible refine Br.dt ?_ ?_); (focus (first | assumption | omega)); conv => whnf))
          | ((with_reducible refine Nc.go' (fun b => ?_)); conv => whnf)
          | (refine Ld.at 1 rfl rfl ?_; conv => whnf)
          | (first | (refine LdN.at 0 rfl (by first | exact Nat.le_of_ble_eq_true rfl | (simp; done)) ?_; conv => whnf) | (refine LdN.at 1 rfl (by first | exact Nat.le_of_ble_eq_true rfl | (simp; done)) ?_; conv => whnf))
          | (first | ((with_reducible refine Cl.is (Try.clkCountNo s1 s2 o1 o2 f _ (mt (fun h => h.2.2.1) h3)) ?_); conv => whnf) | ((with_reducible refine Cl.is (Con.dt hf (Try.refRight _ _)) ?_); conv => whnf) | ((with_reducible refine Cl.is (Con.dt h2 (Try.refIs s1 s2 _)) ?_); conv => whnf) | ((with_reducible refine Cl.is (Try.clkLive _) ?_); conv => whnf)))
        all_goals (refine Is.ent ?_ ?_; (focus (refine FEnt.ent ?_; (repeat (first | exact FEnt.rfl | refine FEnt.drop ?_)); done)); (exact Is.rfl))
    · refine con_of Try.tysOk Try.func6 rfl rfl ?_
      conv => whnf
      repeat' (first
        | (first | ((with_reducible refine Br.tt ?_); conv => whnf) | ((with_reducible refine Br.ff ?_); conv => whnf) | ((with_reducible refine Br.nt ?_); conv => whnf) | ((with_reducible refine Br.nf ?_); conv => whnf))
        | ((with_reducible refine Nc.go' (fun b => ?_)); conv => whnf)
        | (first | (refine LdN.at 0 rfl (by first | exact Nat.le_of_ble_eq_true rfl | (simp; done)) ?_; conv => whnf) | (refine LdN.at 1 rfl (by first | exact Nat.le_of_ble_eq_true rfl | (simp; done)) ?_; conv => whnf))
        | (first | ((with_reducible refine Cl.is (Try.clkCountNo s1 s2 o1 o2 f _ (mt (fun h => h.2.1) h2)) ?_); conv => whnf) | ((with_reducible refine Cl.is (Con.dt hf (Try.refRight _ _)) ?_); conv => whnf) | ((with_reducible refine Cl.is (Con.df h2 (Try.refIs s1 s2 _)) ?_); conv => whnf) | ((with_reducible refine Cl.is (Try.clkLive _) ?_); conv => whnf)))
      all_goals (refine Is.ent ?_ ?_; (focus (refine FEnt.ent ?_; (repeat (first | exact FEnt.rfl | refine FEnt.drop ?_)); done)); (exact Is.rfl))
  · refine con_of Try.tysOk Try.func6 rfl rfl ?_
    conv => whnf
    repeat' (first
      | (first | ((with_reducible refine Br.tt ?_); conv => whnf) | ((with_reducible refine Br.nf ?_); conv => whnf))
      | ((with_reducible refine Nc.go' (fun b => ?_)); conv => whnf)
      | (first | (refine LdN.at 0 rfl (by first | exact Nat.le_of_ble_eq_true rfl | (simp; done)) ?_; conv => whnf) | (refine LdN.at 1 rfl (by first | exact Nat.le_of_ble_eq_true rfl | (simp; done)) ?_; conv => whnf))
      | (first | ((with_reducible refine Cl.is (Try.clkCountNo s1 s2 o1 o2 f _ (mt (fun h => h.1) hf)) ?_); conv => whnf) | ((with_reducible refine Cl.is (Con.df hf (Try.refRight _ _)) ?_); conv => whnf) | ((with_reducible refine Cl.is (Try.clkLive _) ?_); conv => whnf)))
    all_goals (refine Is.ent ?_ ?_; (focus (refine FEnt.ent ?_; (repeat (first | exact FEnt.rfl | refine FEnt.drop ?_)); done)); (exact Is.rfl))
theorem nth_self {t f T : Int} (hf : okF f) (ht : 0 ≤ t) (h : NthP [(t % f, t % f + 1)] f t 1 T) : T = t := by
  have hq := qr (n := t) (f := f) (by omega)
  have hm : mergeF [(t % f, t % f + 1)] = [(t % f, t % f + 1)] := by
    refine mergeF_eq ?_ fun n => Iff.rfl
    rw [canon_cons]
    exact ⟨by unfold isS; simp only; omega, by simp, canon_nil⟩
  have hC : Canon (meetI f (mergeF [(t % f, t % f + 1)])) := meetI_canon (merge_inv _).1
  refine (h.yes ⟨t % f, by omega, by omega, ⟨(t % f, t % f + 1), by simp, by unfold holdsS; simp only; omega⟩⟩).uniq (U := t) ⟨ht, ?_, by omega⟩ hC (by omega)
  rw [meetI_in, hm]
  exact ⟨hq.2.2, ⟨(t % f, t % f + 1), by simp, by unfold holdsS; simp only; omega⟩⟩
theorem Try.clockNthsLaw (t n f : Int) (a : Option Addr) (c : Nat) (xs : List Sp) (L : List HP) (hff : -9223372036854775808 ≤ f ∧ f ≤ 9223372036854775807) (hc : xs.length ≤ c) (hm : c ≤ 9223372036854775807) (hr0 : Rd spE L a xs) :
    Con Try.prog 5 [n64 t, n64 n, n64 f, .slice a xs.length c] L (Is (.bool true) L) := by
  have hr := hr0.take (min (xs.length : Int) 20).toNat
  have hyl : (xs.take (min (xs.length : Int) 20).toNat).length ≤ 1000 := by rw [List.length_take]; omega
  by_cases h60 : f > 60
  · refine con_of Try.tysOk Try.func5 rfl rfl ?_
    conv => whnf
    repeat' (first
      | ((with_reducible refine Br.dt ?_ ?_); (focus (first | assumption | omega)); conv => whnf)
      | ((with_reducible refine Sub.pre ?_ rfl ?_ ?_ ?_); (focus (first | exact Or.inl rfl | exact Or.inr ⟨_, rfl⟩)); (focus (omega)); (focus (omega)); conv => whnf)
      | ((with_reducible refine Cl.is (Try.clkLive _) ?_); conv => whnf))
    all_goals (refine Is.ent ?_ ?_; (focus (exact Ent.rfl)); (exact Is.rfl))
  · by_cases h : nthOk t n f
    · have hq := qr (n := t) (f := f) (by omega)
      by_cases hy : ∃ o, 0 ≤ o ∧ o < f ∧ inS (xs.take (min (xs.length : Int) 20).toNat) o
      · by_cases h6 : n > 60
        · refine con_of Try.tysOk Try.func5 rfl rfl ?_
          conv => whnf
          repeat' (first
            | (first | ((with_reducible refine Br.tt ?_); conv => whnf) | ((with_reducible refine Br.ff ?_); conv => whnf) | ((with_reducible refine Br.nt ?_); conv => whnf) | ((with_reducible refine Br.dt ?_ ?_); (focus (first | assumption | omega)); conv => whnf) | ((with_reducible refine Br.df ?_ ?_); (focus (first | assumption | omega)); conv => whnf))
            | ((with_reducible refine Sub.pre ?_ rfl ?_ ?_ ?_); (focus (first | exact Or.inl rfl | exact Or.inr ⟨_, rfl⟩)); (focus (omega)); (focus (omega)); conv => whnf)
            | (first | ((with_reducible refine Cl.is (Con.dt h.1 (Try.refRight _ _)) ?_); conv => whnf) | ((with_reducible refine Cl.is (Try.refAnyT _ _ _ _ _ (by omega) hyl hr hy) ?_); conv => whnf) | ((with_reducible refine Cl.is (Try.clkLive _) ?_); conv => whnf) | ((with_reducible refine Cl.is (Try.refOffset _ _ _ ⟨by omega, by omega⟩ h.1) ?_); conv => whnf) | ((with_reducible refine Cl.is (Con.dt hIn (Try.refIn _ _ _ _ _ (by omega) hr)) ?_); conv => whnf))
            | ((refine Cl.exs (Try.clkNth t n f _ _ (xs.take (min (xs.length : Int) 20).toNat) _ h hyl hr) (fun T hT => ?_); have hN := hT.yes hy; have hge := hN.ge (meetI_canon (merge_inv _).1) (by omega) h.2.1; have hle := hT.le; have hIn : inS (xs.take (min (xs.length : Int) 20).toNat) (T % f) := ((merge_inv _).2 _).1 (meetI_in.1 hN.is).2); conv => whnf))
          all_goals (refine Is.ent ?_ ?_; (focus (exact Ent.rfl)); (exact Is.rfl))
        · have hns : nextF (max t 0) (t % f) f = t := by rw [show max t 0 = t from by omega]; exact nextF_self h.2.2.2.1 (by omega)
          have cn := Try.clkNext t (t % f) f
          rw [hns] at cn
          refine con_of Try.tysOk Try.func5 rfl rfl ?_
          conv => whnf
          repeat' (first
            | (first | ((with_reducible refine Br.tt ?_); conv => whnf) | ((with_reducible refine Br.ff ?_); conv => whnf) | ((with_reducible refine Br.nt ?_); conv => whnf) | ((with_reducible refine Br.dt ?_ ?_); (focus (first | assumption | omega)); conv => whnf) | ((with_reducible refine Br.df ?_ ?_); (focus (first | assumption | omega)); conv => whnf))
            | ((with_reducible refine Ar.i64 ?_ ?_); (focus omega); conv => whnf)
            | ((with_reducible refine Nc.go' (fun b => ?_)); conv => whnf)
            | ((with_reducible refine Sub.pre ?_ rfl ?_ ?_ ?_); (focus (first | exact Or.inl rfl | exact Or.inr ⟨_, rfl⟩)); (focus (omega)); (focus (omega)); conv => whnf)
            | (first | ((with_reducible refine Cl.is (Con.dt h.1 (Try.refRight _ _)) ?_); conv => whnf) | ((with_reducible refine Cl.is (Try.refAnyT _ _ _ _ _ (by omega) hyl hr hy) ?_); conv => whnf) | ((with_reducible refine Cl.is (Try.clkLive _) ?_); conv => whnf) | ((with_reducible refine Cl.is (Try.refOffset t f _ ⟨by omega, by omega⟩ h.1) ?_); conv => whnf) | ((with_reducible refine Cl.is (Try.refNth _ _ _ _ _ _ _ _ h hyl hr hN hle) ?_); conv => whnf) | ((with_reducible refine Cl.is (cn _ (by omega) ⟨h.1, by omega, by omega, by omega⟩) ?_); conv => whnf))
            | ((refine Cl.exs (Try.clkNth t n f _ _ (xs.take (min (xs.length : Int) 20).toNat) _ h hyl hr) (fun T hT => ?_); have hN := hT.yes hy; have hge := hN.ge (meetI_canon (merge_inv _).1) (by omega) h.2.1; have hle := hT.le); conv => whnf)
            | ((refine Cl.exs (Try.clkNth t 1 f _ _ [(t % f, t % f + 1)] _ ⟨h.1, by omega, by omega, h.2.2.2⟩ (by simp) (Rd.ptc 0 rfl _ rfl)) (fun U hU => ?_); have eU := (nth_self h.1 h.2.2.2.1 hU).symm; subst eU); conv => whnf))
          all_goals (refine Is.ent ?_ ?_; (focus (refine FEnt.ent ?_; (repeat (first | exact FEnt.rfl | refine FEnt.drop ?_)); done)); (exact Is.ttr (by first | assumption | omega)))
      · refine con_of Try.tysOk Try.func5 rfl rfl ?_
        conv => whnf
        repeat' (first
          | (first | ((with_reducible refine Br.tt ?_); conv => whnf) | ((with_reducible refine Br.ff ?_); conv => whnf) | ((with_reducible refine Br.nt ?_); conv => whnf) | ((with_reducible refine Br.nf ?_); conv => whnf) | ((with_reducible refine Br.df ?_ ?_); (focus (first | assumption | omega)); conv => whnf))
          | ((with_reducible refine Sub.pre ?_ rfl ?_ ?_ ?_); (focus (first | exact Or.inl rfl | exact Or.inr ⟨_, rfl⟩)); (focus (omega)); (focus (omega)); conv => whnf)
          | (first | ((with_reducible refine Cl.is (Con.dt h.1 (Try.refRight _ _)) ?_); conv => whnf) | ((with_reducible refine Cl.is (Try.refAnyF _ _ _ _ _ (by omega) hyl hr hy) ?_); conv => whnf) | ((with_reducible refine Cl.is (Try.clkLive _) ?_); conv => whnf))
          | ((refine Cl.exs (Try.clkNth t n f _ _ (xs.take (min (xs.length : Int) 20).toNat) _ h hyl hr) (fun T hT => ?_); have hN := hT.no hy; subst hN); conv => whnf))
        all_goals (refine Is.ent ?_ ?_; (focus (exact Ent.rfl)); (exact Is.rfl))
    · by_cases hf : okF f
      · refine con_of Try.tysOk Try.func5 rfl rfl ?_
        conv => whnf
        repeat' (first
          | (first | ((with_reducible refine Br.tt ?_); conv => whnf) | ((with_reducible refine Br.ff ?_); conv => whnf) | ((with_reducible refine Br.nt ?_); conv => whnf) | ((with_reducible refine Br.dt ?_ ?_); (focus (first | assumption | omega)); conv => whnf) | ((with_reducible refine Br.df ?_ ?_); (focus (first | assumption | omega)); conv => whnf))
          | ((with_reducible refine Sub.pre ?_ rfl ?_ ?_ ?_); (focus (first | exact Or.inl rfl | exact Or.inr ⟨_, rfl⟩)); (focus (omega)); (focus (omega)); conv => whnf)
          | (first | ((with_reducible refine Cl.is (Try.clkNthNo _ _ _ _ _ (xs.take (min (xs.length : Int) 20).toNat) _ h) ?_); conv => whnf) | ((with_reducible refine Cl.is (Con.dt hf (Try.refRight _ _)) ?_); conv => whnf) | ((with_reducible refine Cl.is (Try.clkLive _) ?_); conv => whnf))
          | ((with_reducible refine Br.ds (fun _ => ?_) (fun _ => ?_) ) <;> (conv => whnf)))
        all_goals (refine Is.ent ?_ ?_; (focus (exact Ent.rfl)); (exact Is.rfl))
      · refine con_of Try.tysOk Try.func5 rfl rfl ?_
        conv => whnf
        repeat' (first
          | (first | ((with_reducible refine Br.tt ?_); conv => whnf) | ((with_reducible refine Br.nf ?_); conv => whnf) | ((with_reducible refine Br.df ?_ ?_); (focus (first | assumption | omega)); conv => whnf))
          | ((with_reducible refine Sub.pre ?_ rfl ?_ ?_ ?_); (focus (first | exact Or.inl rfl | exact Or.inr ⟨_, rfl⟩)); (focus (omega)); (focus (omega)); conv => whnf)
          | (first | ((with_reducible refine Cl.is (Try.clkNthNo _ _ _ _ _ (xs.take (min (xs.length : Int) 20).toNat) _ h) ?_); conv => whnf) | ((with_reducible refine Cl.is (Con.df hf (Try.refRight _ _)) ?_); conv => whnf) | ((with_reducible refine Cl.is (Try.clkLive _) ?_); conv => whnf)))
        all_goals (refine Is.ent ?_ ?_; (focus (exact Ent.rfl)); (exact Is.rfl))
end Go.Proofs
