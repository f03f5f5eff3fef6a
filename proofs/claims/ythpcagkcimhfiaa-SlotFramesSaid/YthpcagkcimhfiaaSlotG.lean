/- The arbiter of the bus: the statements on units. -/
import Derived.Test.YthpcagkcimhfiaaSlotF
set_option linter.all false
namespace Go.Proofs
open Go.Eng
set_option linter.unusedVariables false
set_option maxRecDepth 100000
set_option maxHeartbeats 2000000
theorem docS_no {n : Nat} {xs : List Slt} {w : Int} (h : (docS n xs w).length = 0) {o : Int} (h0 : 0 ≤ o) (h1 : o < n) : ¬ begO xs w o := fun hb => by
  have hm := docS_mem.2 ⟨h0, h1, hb⟩
  rw [List.length_eq_zero_iff.1 h] at hm
  simp at hm
/-- which unit is the next one -/
theorem next_unit {n t w : Int} {xs : List Slt} (hn : 0 < n ∧ n ≤ 1000) (hok : slOk n xs xs.length) (ht : 0 ≤ t ∧ t ≤ 2147483647) (h : ¬ (docS n.toNat xs w).length = 0) :
    ∃ T, t ≤ T ∧ T < t + n ∧ begO xs w (T % n) ∧ (∀ u, t ≤ u → u < T → ¬ begO xs w (u % n)) ∧ NthP ((sortI (rawS xs w)).map offP) n t 1 T := by
  have hmem : ∀ o : Int, inS ((docS n.toNat xs w).map offP) o ↔ 0 ≤ o ∧ o < n ∧ begO xs w o := fun o => by
    rw [offs_in (fun o ho => (docS_mem.1 ho).1), docS_mem]
    omega
  obtain ⟨o, ho⟩ : ∃ o, o ∈ docS n.toNat xs w := by
    cases hd : docS n.toNat xs w with
    | nil => rw [hd] at h; exact (h rfl).elim
    | cons x l => exact ⟨x, by simp⟩
  have hb := docS_mem.1 ho
  obtain ⟨T, h1, h2, h3, h4, h5⟩ := next_ex (xs := (docS n.toNat xs w).map offP) (f := n) (t := t) ⟨by omega, by omega⟩ ht ⟨o, by omega, by omega, (hmem o).2 ⟨by omega, by omega, hb.2.2⟩⟩
  rw [← starts_eq hok] at h5
  refine ⟨T, h1, h2, ((hmem _).1 h3).2.2, fun u a b hu => h4 u a b ((hmem _).2 ?_), h5⟩
  have := qr (n := u) (f := n) hn.1
  exact ⟨this.2.1, this.2.2, hu⟩
theorem next_none {n t w : Int} {xs : List Slt} (hok : slOk n xs xs.length) (h : (docS n.toNat xs w).length = 0) : NthP ((sortI (rawS xs w)).map offP) n t 1 (-1) := by
  rw [starts_eq hok, List.length_eq_zero_iff.1 h]
  exact ⟨fun ⟨o, _, _, h⟩ => by simp [inS] at h, fun _ => rfl, by omega⟩
theorem Try.slotStartsLaw (n w t : Int) (a : Option Addr) (c : Nat) (xs : List Slt) (L : List HP) (hn : -9223372036854775808 ≤ n ∧ n ≤ 9223372036854775807) (ht : -9223372036854775808 ≤ t ∧ t ≤ 9223372036854775807) (hx : ∀ x ∈ xs, slB x) (hc : xs.length ≤ c) (hm : c ≤ 9223372036854775807) (hr : Rd slE L a xs) :
    Con Try.prog 5 [n64 n, .slice a xs.length c, n64 w, n64 t] L (Is (.bool true) L) := by
  have h32 := sl32_len xs
  have hr2 : Rd slE L a (sl32 xs) := hr.take _
  have hx2 : ∀ x ∈ sl32 xs, slB x := fun x h => hx x (List.mem_of_mem_take h)
  by_cases hg : n ≤ 200 ∧ ChkR n (sl32 xs) 0
  · have hmd := Try.slMadeOk n a c xs L hg.1 hx hc hm hr hg.2
    obtain ⟨hf, hok⟩ := chk_zero hg.2
    have hn2 := hg.1
    have hst := fun b a c L (had : Ad a (sl32 xs).length) => Try.slStarts b n w a c (sl32 xs) L (by omega) hf hok had
    have hun := fun b a c L (had : Ad a (sl32 xs).length) => Try.slUnits b n w a c (sl32 xs) L (by omega) hf hok had
    have hrs := fun L (h : Rd slE L a (sl32 xs)) => Try.refStarts n w a c (sl32 xs) L (by omega) hf hok h
    have hrb := fun t L (ht : 0 ≤ t ∧ t ≤ 9223372036854775807) (h : Rd slE L a (sl32 xs)) => Try.refBegins n t w a c (sl32 xs) L (by omega) hf hok ht h
    rw [starts_eq hok] at hst hun
    have hdl := docS_len n.toNat (sl32 xs) w
    by_cases hq : ¬ (docS n.toNat (sl32 xs) w).length = 0 ∧ 0 ≤ t ∧ t ≤ 2147483647
    · obtain ⟨T, g1, g2, g3, g4, g5⟩ := next_unit (w := w) ⟨by omega, by omega⟩ hok hq.2 hq.1
      have hnx := fun b a c L (had : Ad a (sl32 xs).length) => Try.slNext b n t w T a c (sl32 xs) L (by omega) ⟨by omega, by omega⟩ hok had hq.2 g5
      clear hg hok hx hx2 g5
      generalize sl32 xs = ys at *
      generalize docS n.toNat ys w = ds at *
      refine con_of Try.tysOk Try.func5 rfl rfl ?_
      conv => whnf
      repeat' (first
        | (first | ((with_reducible refine Br.ff ?_); conv => whnf) | ((with_reducible refine Br.sn ?_); conv => whnf) | ((with_reducible refine Br.ndf ?_ ?_); (focus (first | assumption | omega)); conv => whnf))
        | ((with_reducible refine Nd.mk ?_ ?_); (focus (first | omega | rfl | assumption | (simp; done))); conv => whnf)
        | (first | ((with_reducible refine (?_ : Cl _ 11 _ _ _ _)); (refine Cl.exs hmd ?_; rintro ⟨bt, a2, c2⟩ ⟨hc2, had2⟩); conv => whnf) | ((refine Cl.new (Con.newAt (perm_at2 0 0 rfl rfl) (hst bt a2 c2 _ had2)) (fun _ _ _ _ => ?_)); conv => whnf) | ((with_reducible refine Cl.new (hrs _ (by ((repeat (first | assumption | apply Rd.cons)); done))) (fun _ _ _ _ => ?_)); conv => whnf) | ((refine Cl.isAt2 2 2 rfl rfl (hun bt a2 c2 _ had2) ?_); conv => whnf)))
      rename_i a3 c3 hc3 had3 a4 c4 hc4 had4
      dsimp only at hc2 had2
      conv => whnf
      refine Lp.by Try.tysOk [12] (fun (k : Nat) => [.int .i64 k]) (fun k => own intE 3 a4 c4 ds :: own intE 3 a3 c3 ds :: ptc bt 52 [n64 n, .slice a2 ys.length c2] :: own slE 54 a2 c2 ys :: L) (fun k => k ≤ ds.length) (fun k => ds.length - k) (0) (by kernel_rfl) (by (refine FEnt.ent ?_; (repeat (first | exact FEnt.rfl | (refine FEnt.at 2 rfl ?_; (try simp only [List.eraseIdx_cons_zero, List.eraseIdx_cons_succ, List.eraseIdx_zero, List.tail_cons])))); done)) (by omega) ?_
      rintro k h1
      conv => whnf
      repeat (intro _; conv => whnf)
      by_cases hk : k < ds.length
      · conv => whnf
        repeat' (first
          | (first | ((with_reducible refine Br.dt ?_ ?_); (focus (first | assumption | omega)); conv => whnf) | ((with_reducible refine Br.ndf ?_ ?_); (focus (first | assumption | omega)); conv => whnf))
          | ((with_reducible refine Ar.i64 ?_ ?_); (focus omega); conv => whnf)
          | ((with_reducible refine Ix.ad ?_ ?_ ?_); (focus (assumption)); (focus (omega)); conv => whnf)
          | ((with_reducible apply Ld.rdk0); (focus ((repeat ((first | refine Rd.own 0 rfl ?_ | refine Rd.own 1 rfl ?_); (assumption))); done)); (focus rfl); (focus (omega)); (focus rfl); conv => whnf)
          | ((with_reducible refine Dr.by (id := 10) Try.tysOk rfl [(0, 0), (1, 0), (2, 0), (4, 0), (5, 0), (6, 0), (3, 1), (7, 1), (8, 0)] ?_ ?_); (focus kernel_rfl); conv => whnf))
        refine ⟨k + 1, by kernel_rfl, by (exact Ent.rfl), by omega, by omega⟩
      · conv => whnf
        repeat' (first
          | (first | ((with_reducible refine Br.ff ?_); conv => whnf) | ((with_reducible refine Br.nt ?_); conv => whnf) | ((with_reducible refine Br.df ?_ ?_); (focus (first | assumption | omega)); conv => whnf))
          | ((with_reducible refine Ar.i64 ?_ ?_); (focus omega); conv => whnf)
          | (first | ((refine Cl.isAt2 2 2 rfl rfl (hnx bt a2 c2 _ had2) ?_); conv => whnf) | ((with_reducible refine Cl.is (Con.dt g3 (hrb T _ ⟨by omega, by omega⟩ (by ((repeat (first | assumption | apply Rd.cons)); done)))) ?_); conv => whnf)))
        conv => whnf
        refine Lp.by Try.tysOk [14] (fun (u : Int) => [n64 u]) (fun u => own intE 3 a4 c4 ds :: own intE 3 a3 c3 ds :: ptc bt 52 [n64 n, .slice a2 ys.length c2] :: own slE 54 a2 c2 ys :: L) (fun u => t ≤ u ∧ u ≤ T) (fun u => (T - u).toNat) (t) (by kernel_rfl) (by (refine FEnt.ent ?_; (repeat (first | exact FEnt.rfl | (refine FEnt.at 2 rfl ?_; (try simp only [List.eraseIdx_cons_zero, List.eraseIdx_cons_succ, List.eraseIdx_zero, List.tail_cons])))); done)) (⟨by omega, by omega⟩) ?_
        rintro u ⟨h3, h4⟩
        conv => whnf
        repeat (intro _; conv => whnf)
        by_cases hu : u < T
        · have hno := g4 u h3 hu
          conv => whnf
          repeat' (first
            | (first | ((with_reducible refine Br.ff ?_); conv => whnf) | ((with_reducible refine Br.dt ?_ ?_); (focus (first | assumption | omega)); conv => whnf))
            | ((with_reducible refine Ar.i64 ?_ ?_); (focus omega); conv => whnf)
            | ((with_reducible refine Cl.is (Con.df hno (hrb u _ ⟨by omega, by omega⟩ (by ((repeat (first | assumption | apply Rd.cons)); done)))) ?_); conv => whnf))
          refine ⟨u + 1, by kernel_rfl, by (exact Ent.rfl), ⟨by omega, by omega⟩, by omega⟩
        · conv => whnf
          repeat' (first
            | ((with_reducible refine Br.df ?_ ?_); (focus (first | assumption | omega)); conv => whnf)
            | ((with_reducible refine Cl.is (Try.slLive _) ?_); conv => whnf))
          all_goals (refine Is.ent ?_ ?_; (focus (refine FEnt.ent ?_; (repeat (first | exact FEnt.rfl | refine FEnt.drop ?_)); done)); (exact Is.rfl))
    · have hnx : ∀ b a c L, Ad a (sl32 xs).length → Con Try.prog 17 [.pointer (some ⟨b, 0, none⟩), n64 t, n64 w] (ptc b 52 [n64 n, .slice a (sl32 xs).length c] :: own slE 54 a c (sl32 xs) :: L)
          (Is (n64 (-1)) (ptc b 52 [n64 n, .slice a (sl32 xs).length c] :: own slE 54 a c (sl32 xs) :: L)) := fun b a c L had => by
        by_cases ht2 : 0 ≤ t ∧ t ≤ 2147483647
        · exact Try.slNext b n t w (-1) a c (sl32 xs) L (by omega) ⟨by omega, by omega⟩ hok had ht2 (next_none hok (by omega))
        · exact Try.slNextNo b n t w a c (sl32 xs) L (by omega) ⟨by omega, by omega⟩ hok had ht2
      clear hg hok hx hx2
      generalize sl32 xs = ys at *
      generalize docS n.toNat ys w = ds at *
      refine con_of Try.tysOk Try.func5 rfl rfl ?_
      conv => whnf
      repeat' (first
        | (first | ((with_reducible refine Br.ff ?_); conv => whnf) | ((with_reducible refine Br.sn ?_); conv => whnf) | ((with_reducible refine Br.ndf ?_ ?_); (focus (first | assumption | omega)); conv => whnf))
        | ((with_reducible refine Nd.mk ?_ ?_); (focus (first | omega | rfl | assumption | (simp; done))); conv => whnf)
        | (first | ((with_reducible refine (?_ : Cl _ 11 _ _ _ _)); (refine Cl.exs hmd ?_; rintro ⟨bt, a2, c2⟩ ⟨hc2, had2⟩); conv => whnf) | ((refine Cl.new (Con.newAt (perm_at2 0 0 rfl rfl) (hst bt a2 c2 _ had2)) (fun _ _ _ _ => ?_)); conv => whnf) | ((with_reducible refine Cl.new (hrs _ (by ((repeat (first | assumption | apply Rd.cons)); done))) (fun _ _ _ _ => ?_)); conv => whnf) | ((refine Cl.isAt2 2 2 rfl rfl (hun bt a2 c2 _ had2) ?_); conv => whnf)))
      rename_i a3 c3 hc3 had3 a4 c4 hc4 had4
      dsimp only at hc2 had2
      conv => whnf
      refine Lp.by Try.tysOk [12] (fun (k : Nat) => [.int .i64 k]) (fun k => own intE 3 a4 c4 ds :: own intE 3 a3 c3 ds :: ptc bt 52 [n64 n, .slice a2 ys.length c2] :: own slE 54 a2 c2 ys :: L) (fun k => k ≤ ds.length) (fun k => ds.length - k) (0) (by kernel_rfl) (by (refine FEnt.ent ?_; (repeat (first | exact FEnt.rfl | (refine FEnt.at 2 rfl ?_; (try simp only [List.eraseIdx_cons_zero, List.eraseIdx_cons_succ, List.eraseIdx_zero, List.tail_cons])))); done)) (by omega) ?_
      rintro k h1
      conv => whnf
      repeat (intro _; conv => whnf)
      by_cases hk : k < ds.length
      · conv => whnf
        repeat' (first
          | (first | ((with_reducible refine Br.dt ?_ ?_); (focus (first | assumption | omega)); conv => whnf) | ((with_reducible refine Br.ndf ?_ ?_); (focus (first | assumption | omega)); conv => whnf))
          | ((with_reducible refine Ar.i64 ?_ ?_); (focus omega); conv => whnf)
          | ((with_reducible refine Ix.ad ?_ ?_ ?_); (focus (assumption)); (focus (omega)); conv => whnf)
          | ((with_reducible apply Ld.rdk0); (focus ((repeat ((first | refine Rd.own 0 rfl ?_ | refine Rd.own 1 rfl ?_); (assumption))); done)); (focus rfl); (focus (omega)); (focus rfl); conv => whnf)
          | ((with_reducible refine Dr.by (id := 10) Try.tysOk rfl [(0, 0), (1, 0), (2, 0), (4, 0), (5, 0), (6, 0), (3, 1), (7, 1), (8, 0)] ?_ ?_); (focus kernel_rfl); conv => whnf))
        refine ⟨k + 1, by kernel_rfl, by (exact Ent.rfl), by omega, by omega⟩
      · conv => whnf
        repeat' (first
          | (first | ((with_reducible refine Br.tt ?_); conv => whnf) | ((with_reducible refine Br.ff ?_); conv => whnf) | ((with_reducible refine Br.dt ?_ ?_); (focus (first | assumption | omega)); conv => whnf) | ((with_reducible refine Br.df ?_ ?_); (focus (first | assumption | omega)); conv => whnf))
          | (first | ((refine Cl.isAt2 2 2 rfl rfl (hnx bt a2 c2 _ had2) ?_); conv => whnf) | ((with_reducible refine Cl.is (Try.slLive _) ?_); conv => whnf))
          | ((with_reducible refine Br.ds (fun _ => ?_) (fun _ => ?_) ) <;> (conv => whnf)))
        all_goals (refine Is.ent ?_ ?_; (focus (refine FEnt.ent ?_; (repeat (first | exact FEnt.rfl | refine FEnt.drop ?_)); done)); (exact Is.rfl))
  · have hmd := Try.slMadeNo n a c xs L hn hx hc hm hr hg
    generalize sl32 xs = ys at *
    refine con_of Try.tysOk Try.func5 rfl rfl ?_
    conv => whnf
    repeat' (first
      | ((with_reducible refine Br.nn ?_); conv => whnf)
      | ((with_reducible refine Nd.mk ?_ ?_); (focus (first | omega | rfl | assumption | (simp; done))); conv => whnf)
      | (first | ((with_reducible refine Cl.is (hmd) ?_); conv => whnf) | ((with_reducible refine Cl.is (Try.slLive _) ?_); conv => whnf)))
    all_goals (refine Is.ent ?_ ?_; (focus (exact Ent.rfl)); (exact Is.rfl))
theorem Try.slotNilLaw (t w : Int) (L : List HP) : Con Try.prog 7 [n64 t, n64 w] L (Is (.bool true) L) := by
  refine con_of Try.tysOk Try.func7 rfl rfl ?_
  conv => whnf
  repeat' (first
    | (first | ((with_reducible refine Br.tt ?_); conv => whnf) | ((with_reducible refine Br.dt ?_ ?_); (focus (first | assumption | omega)); conv => whnf))
    | ((with_reducible refine Nd.mk ?_ ?_); (focus (first | omega | rfl | assumption | (simp; done))); conv => whnf)
    | (first | ((with_reducible refine Cl.is (Try.slLive _) ?_); conv => whnf) | ((with_reducible refine Cl.is (Try.slAtNil _ _) ?_); conv => whnf) | ((with_reducible refine Cl.is (Try.slStartsNil _ _) ?_); conv => whnf) | ((with_reducible refine Cl.is (Try.slUnitsNil _ _) ?_); conv => whnf) | ((with_reducible refine Cl.is (Try.slNextNil _ _ _) ?_); conv => whnf) | ((with_reducible refine Cl.is (Try.slBetweenNil _ _ _ _) ?_); conv => whnf)))
  all_goals (refine Is.ent ?_ ?_; (focus (exact Ent.rfl)); (exact Is.rfl))
end Go.Proofs
