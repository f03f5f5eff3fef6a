/- The arbiter of the bus, by the document: what the bus is at a tick; where units begin: contracts. -/
import Derived.Test.YtaacolkdlmfifaaGreatSlotB
set_option linter.all false
namespace Go.Proofs
open Go.Eng
set_option linter.unusedVariables false
set_option maxRecDepth 100000
set_option maxHeartbeats 1000000
theorem Tryz.refAt (n t : Int) (a : Option Addr) (c : Nat) (xs : List Slt) (L : List HP) (hl : xs.length ≤ 1000) (hf : okF n) (h : slOk n xs xs.length) (ht : -9223372036854775808 ≤ t ∧ t ≤ 9223372036854775807) (hr : Rd slE L a xs) :
    Con Tryz.prog 26 [n64 n, .slice a xs.length c, n64 t] L (Is (.agg #[n64 (stF n xs t).1, n64 (stF n xs t).2.1, n64 (stF n xs t).2.2]) L) := by
  unfold stF
  by_cases h0 : t < 0
  · rw [if_pos h0]
    refine con_of Tryz.tysOk Tryz.func26 rfl rfl ?_
    conv => whnf
    repeat' (first
      | ((with_reducible refine Br.dt ?_ ?_); (focus (first | assumption | omega)); conv => whnf)
      | ((with_reducible refine Nd.mk ?_ ?_); (focus (first | omega | rfl | assumption | (simp; done))); conv => whnf)
      | ((with_reducible refine Nc.go' (fun _ => ?_)); conv => whnf)
      | (refine LdN.at 0 rfl (by first | exact Nat.le_of_ble_eq_true rfl | (simp; done)) ?_; conv => whnf)
      | (refine St.at 0 rfl (by first | exact Nat.le_of_ble_eq_true rfl | (simp; done)) rfl ?_; conv => whnf))
    all_goals (refine Is.ent ?_ ?_; (focus (refine FEnt.ent ?_; (repeat (first | exact FEnt.rfl | refine FEnt.drop ?_)); done)); (exact Is.rfl))
  · rw [if_neg h0]
    have hq := qr (n := t) (f := n) (by omega)
    have hfr := fun L => Tryz.refOffset t n L (by omega) hf
    have ho : 0 ≤ t % n ∧ t % n < 4096 := by omega
    clear hq
    generalize t % n = o at *
    refine con_of Tryz.tysOk Tryz.func26 rfl rfl ?_
    conv => whnf
    repeat' (first
      | ((with_reducible refine Br.df ?_ ?_); (focus (first | assumption | omega)); conv => whnf)
      | ((with_reducible refine Nc.go' (fun _ => ?_)); conv => whnf)
      | ((with_reducible refine Cl.is (hfr _) ?_); conv => whnf))
    rename_i b6
    conv => whnf
    refine Lp.by Tryz.tysOk [8] (fun (k : Nat) => [.int .i64 k]) (fun k => ptc b6 71 [n64 0, n64 0, n64 0] :: L) (fun k => k ≤ xs.length ∧ ∀ i, i < k → ¬ inSl (xs.getD i slE.d) o) (fun k => xs.length - k) (0) (by kernel_rfl) (by (exact Ent.rfl)) (⟨by omega, fun i h => by omega⟩) ?_
    rintro k ⟨h1, h2⟩
    conv => whnf
    repeat (intro _; conv => whnf)
    by_cases hk : k < xs.length
    · have hm := (h k hk).1
      by_cases hin : inSl (xs.getD k slE.d) o
      · rw [st_at hk hin h2]
        unfold stS
        conv => whnf
        repeat' (first
          | (first | ((with_reducible refine Br.ff ?_); conv => whnf) | ((with_reducible refine Br.dt ?_ ?_); (focus (first | assumption | omega)); conv => whnf) | ((with_reducible refine Br.df ?_ ?_); (focus (first | assumption | omega)); conv => whnf))
          | ((with_reducible refine Ix.ad ?_ ?_ ?_); (focus (exact Rd.ad (by assumption))); (focus (omega)); conv => whnf)
          | ((with_reducible apply Ld.rdk); (focus ((repeat (first | assumption | apply Rd.cons)); done)); (focus rfl); (focus (omega)); (focus rfl); conv => whnf))
        conv => whnf
        refine Lp.by2 Tryz.tysOk [10, 9] (fun (m : Nat) (fr : Int) => [n64 fr, .int .i64 m]) (fun m fr => ptc b6 71 [n64 0, n64 0, n64 0] :: L) (fun m fr => fr ≤ o ∧ fr = (xs.getD k slE.d).2.1 + 4 * (m : Int)) (fun m fr => (o - fr).toNat) (0) ((xs.getD k slE.d).2.1) (by kernel_rfl) (by (exact Ent.rfl)) (⟨by omega, by omega⟩) ?_
        rintro m fr ⟨h3, h6⟩
        conv => whnf
        repeat (intro _; conv => whnf)
        by_cases h4 : fr + 4 ≤ (xs.getD k slE.d).2.2
        · by_cases h5 : o < fr + 4
          · have e1 : (o - (xs.getD k slE.d).2.1) / 4 = m := by omega
            have e2 : (o - (xs.getD k slE.d).2.1) % 4 = o - fr := by omega
            rw [if_neg (by omega), e1, e2]
            conv => whnf
            repeat' (first
              | ((with_reducible refine Br.dt ?_ ?_); (focus (first | assumption | omega)); conv => whnf)
              | ((with_reducible refine Ar.i64 ?_ ?_); (focus omega); conv => whnf)
              | ((with_reducible refine Nd.mk ?_ ?_); (focus (first | omega | rfl | assumption | (simp; done))); conv => whnf)
              | ((with_reducible refine Ix.ad ?_ ?_ ?_); (focus (exact Rd.ad (by assumption))); (focus (omega)); conv => whnf)
              | ((first | (with_reducible apply Ld.rdk) | (with_reducible apply Ld.rdk0)); (focus ((repeat (first | assumption | apply Rd.cons)); done)); (focus rfl); (focus (omega)); (focus rfl); conv => whnf)
              | (refine LdN.at 0 rfl (by first | exact Nat.le_of_ble_eq_true rfl | (simp; done)) ?_; conv => whnf)
              | (refine St.at 0 rfl (by first | exact Nat.le_of_ble_eq_true rfl | (simp; done)) rfl ?_; conv => whnf))
            all_goals (refine Is.ent ?_ ?_; (focus (refine FEnt.ent ?_; (repeat (first | exact FEnt.rfl | refine FEnt.drop ?_)); done)); (exact Is.rfl))
          · conv => whnf
            repeat' (first
              | (first | ((with_reducible refine Br.dt ?_ ?_); (focus (first | assumption | omega)); conv => whnf) | ((with_reducible refine Br.df ?_ ?_); (focus (first | assumption | omega)); conv => whnf))
              | ((with_reducible refine Ar.i64 ?_ ?_); (focus omega); conv => whnf)
              | ((with_reducible refine Ix.ad ?_ ?_ ?_); (focus (exact Rd.ad (by assumption))); (focus (omega)); conv => whnf)
              | ((with_reducible apply Ld.rdk); (focus ((repeat (first | assumption | apply Rd.cons)); done)); (focus rfl); (focus (omega)); (focus rfl); conv => whnf))
            refine ⟨m + 1, fr + 4, by kernel_rfl, by (exact Ent.rfl), ⟨by omega, by omega⟩, by omega⟩
        · rw [if_pos (by omega)]
          conv => whnf
          repeat' (first
            | ((with_reducible refine Br.df ?_ ?_); (focus (first | assumption | omega)); conv => whnf)
            | ((with_reducible refine Ar.i64 ?_ ?_); (focus omega); conv => whnf)
            | ((with_reducible refine Nd.mk ?_ ?_); (focus (first | omega | rfl | assumption | (simp; done))); conv => whnf)
            | ((with_reducible refine Ix.ad ?_ ?_ ?_); (focus (exact Rd.ad (by assumption))); (focus (omega)); conv => whnf)
            | ((first | (with_reducible apply Ld.rdk) | (with_reducible apply Ld.rdk0)); (focus ((repeat (first | assumption | apply Rd.cons)); done)); (focus rfl); (focus (omega)); (focus rfl); conv => whnf)
            | (refine LdN.at 0 rfl (by first | exact Nat.le_of_ble_eq_true rfl | (simp; done)) ?_; conv => whnf)
            | (refine St.at 0 rfl (by first | exact Nat.le_of_ble_eq_true rfl | (simp; done)) rfl ?_; conv => whnf))
          all_goals (refine Is.ent ?_ ?_; (focus (refine FEnt.ent ?_; (repeat (first | exact FEnt.rfl | refine FEnt.drop ?_)); done)); (exact Is.rfl))
      · conv => whnf
        repeat' (first
          | (first | ((with_reducible refine Br.tt ?_); conv => whnf) | ((with_reducible refine Br.ff ?_); conv => whnf) | ((with_reducible refine Br.dt ?_ ?_); (focus (first | assumption | omega)); conv => whnf))
          | ((with_reducible refine Ar.i64 ?_ ?_); (focus omega); conv => whnf)
          | ((with_reducible refine Ix.ad ?_ ?_ ?_); (focus (exact Rd.ad (by assumption))); (focus (omega)); conv => whnf)
          | ((with_reducible apply Ld.rdk); (focus ((repeat (first | assumption | apply Rd.cons)); done)); (focus rfl); (focus (omega)); (focus rfl); conv => whnf)
          | ((with_reducible refine Br.ds (fun _ => ?_) (fun _ => ?_) ) <;> (conv => whnf)))
        all_goals exact ⟨k + 1, by kernel_rfl, by (exact Ent.rfl), ⟨by omega, lt_step h2 hin⟩, by omega⟩
    · rw [st_no (fun i hi => h2 i (by omega))]
      conv => whnf
      repeat' (first
        | ((with_reducible refine Br.df ?_ ?_); (focus (first | assumption | omega)); conv => whnf)
        | ((with_reducible refine Nd.mk ?_ ?_); (focus (first | omega | rfl | assumption | (simp; done))); conv => whnf)
        | (refine LdN.at 0 rfl (by first | exact Nat.le_of_ble_eq_true rfl | (simp; done)) ?_; conv => whnf)
        | (refine St.at 0 rfl (by first | exact Nat.le_of_ble_eq_true rfl | (simp; done)) rfl ?_; conv => whnf))
      all_goals (refine Is.ent ?_ ?_; (focus (refine FEnt.ent ?_; (repeat (first | exact FEnt.rfl | refine FEnt.drop ?_)); done)); (exact Is.rfl))
/-- does a unit of an owner begin at an offset? -/
abbrev begP (s : Int × Int × Int) (w : Int) : Prop := s.1 = w ∧ 0 ≤ s.2.1 ∧ s.2.2 = 0
abbrev begO (xs : List Slt) (w o : Int) : Prop := begP (stO xs o) w
theorem Tryz.refBegins (n t w : Int) (a : Option Addr) (c : Nat) (xs : List Slt) (L : List HP) (hl : xs.length ≤ 1000) (hf : okF n) (h : slOk n xs xs.length) (ht : 0 ≤ t ∧ t ≤ 9223372036854775807) (hr : Rd slE L a xs) :
    Con Tryz.prog 19 [n64 n, .slice a xs.length c, n64 t, n64 w] L (Is (.bool (decide (begO xs w (t % n)))) L) := by
  have hq := qr (n := t) (f := n) (by omega)
  have ha := Tryz.refAt n t a c xs L hl hf h ⟨by omega, by omega⟩ hr
  unfold stF at ha
  rw [if_neg (by omega)] at ha
  unfold begO begP
  generalize stO xs (t % n) = s at *
  obtain ⟨s1, s2, s3⟩ := s
  dsimp only at *
  refine con_of Tryz.tysOk Tryz.func19 rfl rfl ?_
  conv => whnf
  repeat' (first
    | (first | ((with_reducible refine Br.tt ?_); conv => whnf) | ((with_reducible refine Br.ff ?_); conv => whnf))
    | ((with_reducible refine Nd.mk ?_ ?_); (focus (first | omega | rfl | assumption | (simp; done))); conv => whnf)
    | ((with_reducible refine Nc.go' (fun _ => ?_)); conv => whnf)
    | (refine Ld.at 0 rfl rfl ?_; conv => whnf)
    | (refine St.at 0 rfl (by first | exact Nat.le_of_ble_eq_true rfl | (simp; done)) rfl ?_; conv => whnf)
    | ((with_reducible refine Cl.is (ha) ?_); conv => whnf)
    | ((with_reducible refine Br.ds (fun _ => ?_) (fun _ => ?_) ) <;> (conv => whnf)))
  all_goals (refine Is.ent ?_ ?_; (focus (refine FEnt.ent ?_; (repeat (first | exact FEnt.rfl | refine FEnt.drop ?_)); done)); (first | exact Is.ff (by omega) | (refine Is.dec ?_; omega)))
/-- where an owner's units begin, by the document -/
def docS (n : Nat) (xs : List Slt) (w : Int) : List Int := ((List.range n).filter fun i : Nat => decide (begO xs w (i : Int))).map fun i : Nat => (i : Int)
theorem docS_succ (n : Nat) (xs : List Slt) (w : Int) : docS (n + 1) xs w = if begO xs w (n : Int) then docS n xs w ++ [(n : Int)] else docS n xs w := by
  unfold docS
  rw [List.range_succ, List.filter_append, List.map_append]
  by_cases h : begO xs w (n : Int) <;> simp [h]
theorem docS_len (n : Nat) (xs : List Slt) (w : Int) : (docS n xs w).length ≤ n := by
  unfold docS
  rw [List.length_map]
  exact Nat.le_trans (List.length_filter_le _ _) (by simp)
theorem docS_mem {n : Nat} {xs : List Slt} {w o : Int} : o ∈ docS n xs w ↔ 0 ≤ o ∧ o < n ∧ begO xs w o := by
  unfold docS
  rw [List.mem_map]
  constructor
  · rintro ⟨i, hi, rfl⟩
    rw [List.mem_filter, List.mem_range] at hi
    exact ⟨by omega, by omega, of_decide_eq_true hi.2⟩
  · rintro ⟨h1, h2, h3⟩
    have e : ((o.toNat : Nat) : Int) = o := by omega
    refine ⟨o.toNat, ?_, e⟩
    rw [List.mem_filter, List.mem_range, e]
    exact ⟨by omega, decide_eq_true h3⟩
theorem docS_lt (n : Nat) (xs : List Slt) (w : Int) : (docS n xs w).Pairwise (· < ·) := by
  unfold docS
  rw [List.pairwise_map]
  refine List.Pairwise.filter _ ?_
  refine List.Pairwise.imp ?_ (List.pairwise_lt_range (n := n))
  intro a b h
  omega
end Go.Proofs
