/- The arbiter of the bus: what the bus is at a tick; where units begin: contracts. -/
import Derived.Test.YthpcagkcimhfiaaSlot
import Derived.Test.YthpcagkcimhfiaaSortI
set_option linter.all false
namespace Go.Proofs
open Go.Eng
set_option linter.unusedVariables false
set_option maxRecDepth 100000
set_option maxHeartbeats 1000000
theorem td4 {x : Int} (h : 0 ≤ x) : x.tdiv 4 = x / 4 := Int.tdiv_eq_ediv_of_nonneg h
theorem tm4 {x : Int} (h : 0 ≤ x) : x.tmod 4 = x % 4 := Int.tmod_eq_emod_of_nonneg h
/-- what the bus is at an offset of a slot -/
def stS (s : Slt) (o : Int) : Int × Int × Int := if (s.2.2 - s.2.1) / 4 ≤ (o - s.2.1) / 4 then (s.1, -1, 0) else (s.1, (o - s.2.1) / 4, (o - s.2.1) % 4)
abbrev inSl (s : Slt) (o : Int) : Prop := s.2.1 ≤ o ∧ o < s.2.2
def stO (xs : List Slt) (o : Int) : Int × Int × Int := match xs.find? (fun s => decide (inSl s o)) with
  | none => (0, -1, 0)
  | some s => stS s o
def stF (n : Int) (xs : List Slt) (t : Int) : Int × Int × Int := if t < 0 then (0, -1, 0) else stO xs (t % n)
theorem st_at {xs : List Slt} {o : Int} {k : Nat} (hk : k < xs.length) (h : inSl (xs.getD k slE.d) o) (hp : ∀ i, i < k → ¬ inSl (xs.getD i slE.d) o) : stO xs o = stS (xs.getD k slE.d) o := by
  have e : xs.find? (fun s => decide (inSl s o)) = some (xs.getD k slE.d) := by
    induction xs generalizing k with
    | nil => simp at hk
    | cons x xs ih =>
      cases k with
      | zero => rw [List.find?_cons_of_pos (by simpa using h)]; simp
      | succ k =>
        have h0 : ¬ inSl x o := by simpa using hp 0 (by omega)
        rw [List.find?_cons_of_neg (by simpa using h0)]
        have := ih (k := k) (by simpa using hk) (by simpa using h) (fun i hi => by simpa using hp (i + 1) (by omega))
        rw [this]; simp
  unfold stO
  rw [e]
theorem st_no {xs : List Slt} {o : Int} (hp : ∀ i, i < xs.length → ¬ inSl (xs.getD i slE.d) o) : stO xs o = (0, -1, 0) := by
  have e : xs.find? (fun s => decide (inSl s o)) = none := List.find?_eq_none.2 fun r hr => by
    obtain ⟨i, hi, rfl⟩ := List.getElem_of_mem hr
    have := hp i hi
    simpa [List.getD, hi] using this
  unfold stO
  rw [e]
abbrev stV3 (s : Int × Int × Int) : Value := .agg #[n64 s.1, n64 s.2.1, n64 s.2.2]
theorem Try.slAtNil (t : Int) (L : List HP) : Con Try.prog 12 [.pointer none, n64 t] L (Is (.agg #[n64 0, n64 (-1), n64 0]) L) := by
  refine con_of Try.tysOk Try.func12 rfl rfl ?_
  conv => whnf
  repeat' ((with_reducible refine Nc.go' (fun _ => ?_)); conv => whnf)
  refine Sc.plain Try.tysOk ?_
  conv => whnf
  repeat' (first
    | (first | ((with_reducible refine Br.tt ?_); conv => whnf) | ((with_reducible refine Br.nn ?_); conv => whnf))
    | ((with_reducible refine Nd.mk ?_ ?_); (focus (first | omega | rfl | assumption | (simp; done))); conv => whnf)
    | (refine LdN.at 0 rfl (by first | exact Nat.le_of_ble_eq_true rfl | (simp; done)) ?_; conv => whnf)
    | (refine St.at 0 rfl (by first | exact Nat.le_of_ble_eq_true rfl | (simp; done)) rfl ?_; conv => whnf))
  all_goals (refine Is.ent ?_ ?_; (focus (refine FEnt.ent ?_; (repeat (first | exact FEnt.rfl | refine FEnt.drop ?_)); done)); (exact Is.rfl))
theorem Try.slAt (b : Nat) (n t : Int) (a : Option Addr) (c : Nat) (xs : List Slt) (L : List HP) (hl : xs.length ≤ 1000) (hf : okF n) (h : slOk n xs xs.length) (ht : -9223372036854775808 ≤ t ∧ t ≤ 9223372036854775807) (had : Ad a xs.length) :
    Con Try.prog 12 [.pointer (some ⟨b, 0, none⟩), n64 t] (ptc b 52 [n64 n, .slice a xs.length c] :: own slE 54 a c xs :: L)
      (Is (.agg #[n64 (stF n xs t).1, n64 (stF n xs t).2.1, n64 (stF n xs t).2.2]) (ptc b 52 [n64 n, .slice a xs.length c] :: own slE 54 a c xs :: L)) := by
  unfold stF
  by_cases h0 : t < 0
  · rw [if_pos h0]
    refine con_of Try.tysOk Try.func12 rfl rfl ?_
    conv => whnf
    repeat' ((with_reducible refine Nc.go' (fun _ => ?_)); conv => whnf)
    refine Sc.plain Try.tysOk ?_
    conv => whnf
    repeat' (first
      | (first | ((with_reducible refine Br.ff ?_); conv => whnf) | ((with_reducible refine Br.sn ?_); conv => whnf) | ((with_reducible refine Br.dt ?_ ?_); (focus (first | assumption | omega)); conv => whnf))
      | ((with_reducible refine Nd.mk ?_ ?_); (focus (first | omega | rfl | assumption | (simp; done))); conv => whnf)
      | (refine LdN.at 0 rfl (by first | exact Nat.le_of_ble_eq_true rfl | (simp; done)) ?_; conv => whnf)
      | (refine St.at 0 rfl (by first | exact Nat.le_of_ble_eq_true rfl | (simp; done)) rfl ?_; conv => whnf))
    all_goals (refine Is.ent ?_ ?_; (focus (refine FEnt.ent ?_; (repeat (first | exact FEnt.rfl | (refine FEnt.at 1 rfl ?_; (try simp only [List.eraseIdx_cons_zero, List.eraseIdx_cons_succ, List.eraseIdx_zero, List.tail_cons])) | refine FEnt.drop ?_)); done)); (exact Is.rfl))
  · rw [if_neg h0]
    have hq := qr (n := t) (f := n) (by omega)
    have hfr := fun L => Try.clkFrame t n L (by omega) hf
    have ho : 0 ≤ t % n ∧ t % n < 4096 := by omega
    clear hq
    generalize t % n = o at *
    generalize t / n = q at *
    refine con_of Try.tysOk Try.func12 rfl rfl ?_
    conv => whnf
    repeat' ((with_reducible refine Nc.go' (fun _ => ?_)); conv => whnf)
    rename_i b4
    refine Sc.plain Try.tysOk ?_
    conv => whnf
    repeat' (first
      | (first | ((with_reducible refine Br.ff ?_); conv => whnf) | ((with_reducible refine Br.sn ?_); conv => whnf) | ((with_reducible refine Br.df ?_ ?_); (focus (first | assumption | omega)); conv => whnf))
      | ((with_reducible refine Nd.mk ?_ ?_); (focus (first | omega | rfl | assumption | (simp; done))); conv => whnf)
      | (refine Ld.at 1 rfl rfl ?_; conv => whnf)
      | ((with_reducible refine Cl.is (hfr _) ?_); conv => whnf))
    conv => whnf
    refine Lp.by Try.tysOk [31] (fun (k : Nat) => [.int .i64 k]) (fun k => ptc b4 33 [n64 0, n64 0, n64 0] :: ptc b 52 [n64 n, .slice a xs.length c] :: own slE 54 a c xs :: L) (fun k => k ≤ xs.length ∧ ∀ i, i < k → ¬ inSl (xs.getD i slE.d) o) (fun k => xs.length - k) (0) (by kernel_rfl) (by (exact Ent.rfl)) (⟨by omega, fun i h => by omega⟩) ?_
    rintro k ⟨h1, h2⟩
    conv => whnf
    repeat (intro _; conv => whnf)
    by_cases hk : k < xs.length
    · have hm := (h k hk).1
      by_cases hin : inSl (xs.getD k slE.d) o
      · have hhl : isS (xs.getD k slE.d).2.1 (xs.getD k slE.d).2.2 ∧ (xs.getD k slE.d).2.1 ≤ o ∧ o < (xs.getD k slE.d).2.2 := ⟨⟨hm.2.2.1, hm.2.2.2.1⟩, hin.1, hin.2⟩
        have e1 := td4 (x := o - (xs.getD k slE.d).2.1) (by omega)
        have e2 := td4 (x := (xs.getD k slE.d).2.2 - (xs.getD k slE.d).2.1) (by omega)
        have e3 := tm4 (x := o - (xs.getD k slE.d).2.1) (by omega)
        rw [st_at hk hin h2]
        unfold stS
        by_cases hq : ((xs.getD k slE.d).2.2 - (xs.getD k slE.d).2.1) / 4 ≤ (o - (xs.getD k slE.d).2.1) / 4
        · rw [if_pos hq]
          rw [← e1, ← e2] at hq
          have b1 : 0 ≤ (o - (xs.getD k slE.d).2.1).tdiv 4 ∧ (o - (xs.getD k slE.d).2.1).tdiv 4 ≤ 4096 := by rw [e1]; omega
          have b2 : 0 ≤ ((xs.getD k slE.d).2.2 - (xs.getD k slE.d).2.1).tdiv 4 ∧ ((xs.getD k slE.d).2.2 - (xs.getD k slE.d).2.1).tdiv 4 ≤ 4096 := by rw [e2]; omega
          conv => whnf
          repeat' (first
            | (first | ((with_reducible refine Br.nt ?_); conv => whnf) | ((with_reducible refine Br.dt ?_ ?_); (focus (first | assumption | omega)); conv => whnf))
            | ((with_reducible refine Ar.i64 ?_ ?_); (focus omega); conv => whnf)
            | ((with_reducible refine Nd.mk ?_ ?_); (focus (first | omega | rfl | assumption | (simp; done))); conv => whnf)
            | ((with_reducible refine Nc.go' (fun _ => ?_)); conv => whnf)
            | ((with_reducible refine Ix.ad ?_ ?_ ?_); (focus (assumption)); (focus (omega)); conv => whnf)
            | (refine Ld.at 0 rfl rfl ?_; conv => whnf)
            | (first | ((with_reducible apply LdN.rdk); (focus ((repeat ((refine Rd.own 2 rfl ?_); (assumption))); done)); (focus rfl); (focus rfl); (focus (omega)); conv => whnf) | (refine LdN.at 0 rfl (by first | exact Nat.le_of_ble_eq_true rfl | (simp; done)) ?_; conv => whnf) | (refine LdN.at 1 rfl (by first | exact Nat.le_of_ble_eq_true rfl | (simp; done)) ?_; conv => whnf))
            | (first | (refine St.at 0 rfl (by first | exact Nat.le_of_ble_eq_true rfl | (simp; done)) rfl ?_; conv => whnf) | (refine St.at 1 rfl (by first | exact Nat.le_of_ble_eq_true rfl | (simp; done)) rfl ?_; conv => whnf))
            | (first | ((with_reducible refine Cl.is (Try.slPlaces _ _ _ _) ?_); conv => whnf) | ((with_reducible refine Cl.is (Con.dt hhl (Try.spanHolds _ _ _ _)) ?_); conv => whnf)))
          all_goals (refine Is.ent ?_ ?_; (focus (refine FEnt.ent ?_; (repeat (first | exact FEnt.rfl | (refine FEnt.at 2 rfl ?_; (try simp only [List.eraseIdx_cons_zero, List.eraseIdx_cons_succ, List.eraseIdx_zero, List.tail_cons])) | refine FEnt.drop ?_)); done)); (exact Is.rfl))
        · rw [if_neg hq, ← e1, ← e3]
          rw [← e1, ← e2] at hq
          have b1 : 0 ≤ (o - (xs.getD k slE.d).2.1).tdiv 4 ∧ (o - (xs.getD k slE.d).2.1).tdiv 4 ≤ 4096 := by rw [e1]; omega
          have b2 : 0 ≤ ((xs.getD k slE.d).2.2 - (xs.getD k slE.d).2.1).tdiv 4 ∧ ((xs.getD k slE.d).2.2 - (xs.getD k slE.d).2.1).tdiv 4 ≤ 4096 := by rw [e2]; omega
          conv => whnf
          repeat' (first
            | (first | ((with_reducible refine Br.nt ?_); conv => whnf) | ((with_reducible refine Br.dt ?_ ?_); (focus (first | assumption | omega)); conv => whnf) | ((with_reducible refine Br.df ?_ ?_); (focus (first | assumption | omega)); conv => whnf))
            | ((with_reducible refine Ar.i64 ?_ ?_); (focus omega); conv => whnf)
            | ((with_reducible refine Nd.mk ?_ ?_); (focus (first | omega | rfl | assumption | (simp; done))); conv => whnf)
            | ((with_reducible refine Nc.go' (fun _ => ?_)); conv => whnf)
            | ((with_reducible refine Ix.ad ?_ ?_ ?_); (focus (assumption)); (focus (omega)); conv => whnf)
            | (refine Ld.at 0 rfl rfl ?_; conv => whnf)
            | (first | ((with_reducible apply LdN.rdk); (focus ((repeat ((refine Rd.own 2 rfl ?_); (assumption))); done)); (focus rfl); (focus rfl); (focus (omega)); conv => whnf) | (refine LdN.at 0 rfl (by first | exact Nat.le_of_ble_eq_true rfl | (simp; done)) ?_; conv => whnf) | (refine LdN.at 1 rfl (by first | exact Nat.le_of_ble_eq_true rfl | (simp; done)) ?_; conv => whnf))
            | (first | (refine St.at 0 rfl (by first | exact Nat.le_of_ble_eq_true rfl | (simp; done)) rfl ?_; conv => whnf) | (refine St.at 1 rfl (by first | exact Nat.le_of_ble_eq_true rfl | (simp; done)) rfl ?_; conv => whnf))
            | (first | ((with_reducible refine Cl.is (Try.slPlaces _ _ _ _) ?_); conv => whnf) | ((with_reducible refine Cl.is (Con.dt hhl (Try.spanHolds _ _ _ _)) ?_); conv => whnf)))
          all_goals (refine Is.ent ?_ ?_; (focus (refine FEnt.ent ?_; (repeat (first | exact FEnt.rfl | (refine FEnt.at 2 rfl ?_; (try simp only [List.eraseIdx_cons_zero, List.eraseIdx_cons_succ, List.eraseIdx_zero, List.tail_cons])) | refine FEnt.drop ?_)); done)); (exact Is.rfl))
      · have hhl : ¬ (isS (xs.getD k slE.d).2.1 (xs.getD k slE.d).2.2 ∧ (xs.getD k slE.d).2.1 ≤ o ∧ o < (xs.getD k slE.d).2.2) := fun h => hin h.2
        conv => whnf
        repeat' (first
          | (first | ((with_reducible refine Br.nf ?_); conv => whnf) | ((with_reducible refine Br.dt ?_ ?_); (focus (first | assumption | omega)); conv => whnf))
          | ((with_reducible refine Ar.i64 ?_ ?_); (focus omega); conv => whnf)
          | ((with_reducible refine Nd.mk ?_ ?_); (focus (first | omega | rfl | assumption | (simp; done))); conv => whnf)
          | ((with_reducible refine Nc.go' (fun _ => ?_)); conv => whnf)
          | ((with_reducible refine Ix.ad ?_ ?_ ?_); (focus (assumption)); (focus (omega)); conv => whnf)
          | (first | ((with_reducible apply LdN.rdk); (focus ((repeat ((refine Rd.own 2 rfl ?_); (assumption))); done)); (focus rfl); (focus rfl); (focus (omega)); conv => whnf) | (refine LdN.at 0 rfl (by first | exact Nat.le_of_ble_eq_true rfl | (simp; done)) ?_; conv => whnf))
          | (refine St.at 0 rfl (by first | exact Nat.le_of_ble_eq_true rfl | (simp; done)) rfl ?_; conv => whnf)
          | (first | ((with_reducible refine Cl.is (Try.slPlaces _ _ _ _) ?_); conv => whnf) | ((with_reducible refine Cl.is (Con.df hhl (Try.spanHolds _ _ _ _)) ?_); conv => whnf)))
        refine ⟨k + 1, by kernel_rfl, by (refine FEnt.ent ?_; (repeat (first | exact FEnt.rfl | (refine FEnt.at 1 rfl ?_; (try simp only [List.eraseIdx_cons_zero, List.eraseIdx_cons_succ, List.eraseIdx_zero, List.tail_cons])) | refine FEnt.drop ?_)); done), ⟨by omega, lt_step h2 hin⟩, by omega⟩
    · rw [st_no (fun i hi => h2 i (by omega))]
      conv => whnf
      repeat' (first
        | ((with_reducible refine Br.df ?_ ?_); (focus (first | assumption | omega)); conv => whnf)
        | ((with_reducible refine Nd.mk ?_ ?_); (focus (first | omega | rfl | assumption | (simp; done))); conv => whnf)
        | (refine LdN.at 0 rfl (by first | exact Nat.le_of_ble_eq_true rfl | (simp; done)) ?_; conv => whnf)
        | (refine St.at 0 rfl (by first | exact Nat.le_of_ble_eq_true rfl | (simp; done)) rfl ?_; conv => whnf))
      all_goals (refine Is.ent ?_ ?_; (focus (refine FEnt.ent ?_; (repeat (first | exact FEnt.rfl | (refine FEnt.at 1 rfl ?_; (try simp only [List.eraseIdx_cons_zero, List.eraseIdx_cons_succ, List.eraseIdx_zero, List.tail_cons])) | refine FEnt.drop ?_)); done)); (exact Is.rfl))
end Go.Proofs
