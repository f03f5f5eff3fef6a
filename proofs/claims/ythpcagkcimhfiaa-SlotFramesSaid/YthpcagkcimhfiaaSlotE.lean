/- The arbiter of the bus: its laws. -/
import Derived.Test.YthpcagkcimhfiaaSlotD
set_option linter.all false
namespace Go.Proofs
open Go.Eng
set_option linter.unusedVariables false
set_option maxRecDepth 100000
set_option maxHeartbeats 2000000
theorem Try.slStartsNil (w : Int) (L : List HP) : Con Try.prog 14 [.pointer none, n64 w] L (Is (.slice none 0 0) L) := by
  refine con_of Try.tysOk Try.func14 rfl rfl ?_
  conv => whnf
  repeat' ((with_reducible refine Br.nn ?_); conv => whnf)
  all_goals (refine Is.ent ?_ ?_; (focus (exact Ent.rfl)); (exact Is.rfl))
theorem Try.slUnitsNil (w : Int) (L : List HP) : Con Try.prog 16 [.pointer none, n64 w] L (Is (n64 0) L) := by
  refine con_of Try.tysOk Try.func16 rfl rfl ?_
  conv => whnf
  repeat' ((with_reducible refine Cl.is (Try.slStartsNil _ _) ?_); conv => whnf)
  all_goals (refine Is.ent ?_ ?_; (focus (exact Ent.rfl)); (exact Is.rfl))
theorem Try.slOffsNil (w : Int) (L : List HP) : Con Try.prog 34 [.pointer none, n64 w] L (Is (.slice none 0 0) L) := by
  refine con_of Try.tysOk Try.func34 rfl rfl ?_
  conv => whnf
  repeat' ((with_reducible refine Cl.is (Try.slStartsNil _ _) ?_); conv => whnf)
  conv => whnf
  refine Lp.by Try.tysOk [12, 5] (fun (k : Nat) => [.int .i64 k, .slice none 0 0]) (fun k => L) (fun k => k = 0) (fun k => 0) (0) (by kernel_rfl) (by (exact Ent.rfl)) (rfl) ?_
  rintro k h1
  conv => whnf
  repeat (intro _; conv => whnf)
  subst h1
  conv => whnf
  repeat' ((with_reducible refine Br.df ?_ ?_); (focus (first | assumption | omega)); conv => whnf)
  all_goals (refine Is.ent ?_ ?_; (focus (exact Ent.rfl)); (exact Is.rfl))
theorem Try.slNextNil (t w : Int) (L : List HP) : Con Try.prog 17 [.pointer none, n64 t, n64 w] L (Is (n64 (-1)) L) := by
  refine con_of Try.tysOk Try.func17 rfl rfl ?_
  conv => whnf
  repeat' ((with_reducible refine Br.nn ?_); conv => whnf)
  all_goals (refine Is.ent ?_ ?_; (focus (exact Ent.rfl)); (exact Is.rfl))
theorem Try.slBetweenNil (s1 s2 w : Int) (L : List HP) : Con Try.prog 19 [.pointer none, spV s1 s2, n64 w] L (Is (n64 0) L) := by
  refine con_of Try.tysOk Try.func19 rfl rfl ?_
  conv => whnf
  repeat' (first
    | ((with_reducible refine Nc.go' (fun _ => ?_)); conv => whnf)
    | ((with_reducible refine Cl.is (Try.slOffsNil _ _) ?_); conv => whnf))
  rename_i b4
  conv => whnf
  refine Lp.by Try.tysOk [14, 7] (fun (k : Nat) => [.int .i64 k, n64 0]) (fun k => ptc b4 45 [n64 s1, n64 s2] :: L) (fun k => k = 0) (fun k => 0) (0) (by kernel_rfl) (by (exact Ent.rfl)) (rfl) ?_
  rintro k h1
  conv => whnf
  repeat (intro _; conv => whnf)
  subst h1
  conv => whnf
  repeat' ((with_reducible refine Br.df ?_ ?_); (focus (first | assumption | omega)); conv => whnf)
  all_goals (refine Is.ent ?_ ?_; (focus (refine FEnt.ent ?_; (repeat (first | exact FEnt.rfl | refine FEnt.drop ?_)); done)); (exact Is.rfl))
theorem Try.slBetweenNo (b : Nat) (n s1 s2 w : Int) (a : Option Addr) (c : Nat) (xs : List Slt) (L : List HP) (hl : xs.length ≤ 1000) (hn : 0 < n ∧ n ≤ 1000) (h : slOk n xs xs.length) (had : Ad a xs.length) (hs : ¬ (isS s1 s2 ∧ s2 ≤ 2147483647)) :
    Con Try.prog 19 [.pointer (some ⟨b, 0, none⟩), spV s1 s2, n64 w] (ptc b 52 [n64 n, .slice a xs.length c] :: own slE 54 a c xs :: L)
      (Is (n64 0) (ptc b 52 [n64 n, .slice a xs.length c] :: own slE 54 a c xs :: L)) := by
  have hof := fun L => Try.slOffs b n w a c xs L hl ⟨by omega, by omega⟩ h had
  have hdl := docS_len n.toNat xs w
  rw [← starts_eq h, ← List.length_map (f := offP)] at hdl
  generalize (sortI (rawS xs w)).map offP = os at *
  refine con_of Try.tysOk Try.func19 rfl rfl ?_
  conv => whnf
  repeat' (first
    | ((with_reducible refine Nc.go' (fun _ => ?_)); conv => whnf)
    | ((refine Cl.new (Con.newAt (perm_at2 1 1 rfl rfl) (hof _)) (fun _ _ _ _ => ?_)); conv => whnf))
  rename_i bs a1 c1 hc1 had1
  conv => whnf
  refine Lp.by2 Try.tysOk [14, 7] (fun (k : Nat) (u : Int) => [.int .i64 k, n64 u]) (fun k u => own spE 45 a1 c1 os :: ptc bs 45 [n64 s1, n64 s2] :: ptc b 52 [n64 n, .slice a xs.length c] :: own slE 54 a c xs :: L) (fun k u => k ≤ os.length ∧ u = 0) (fun k u => os.length - k) (0) (0) (by kernel_rfl) (by (exact Ent.rfl)) (⟨by omega, rfl⟩) ?_
  rintro k u ⟨h1, hu⟩
  conv => whnf
  repeat (intro _; conv => whnf)
  by_cases hk : k < os.length
  · have hcn := fun o1 o2 L => Try.clkCountNo s1 s2 o1 o2 n L (fun hx => hs ⟨hx.2.1, hx.2.2.1⟩)
    conv => whnf
    repeat' (first
      | ((with_reducible refine Br.dt ?_ ?_); (focus (first | assumption | omega)); conv => whnf)
      | ((with_reducible refine Ar.i64 ?_ ?_); (focus omega); conv => whnf)
      | ((with_reducible refine Nd.mk ?_ ?_); (focus (first | omega | rfl | assumption | (simp; done))); conv => whnf)
      | ((with_reducible refine Nc.go' (fun _ => ?_)); conv => whnf)
      | ((with_reducible refine Ix.ad ?_ ?_ ?_); (focus (assumption)); (focus (omega)); conv => whnf)
      | (refine Ld.at 3 rfl rfl ?_; conv => whnf)
      | (first | ((with_reducible apply LdN.rdk); (focus ((repeat ((refine Rd.own 0 rfl ?_); (assumption))); done)); (focus rfl); (focus rfl); (focus (omega)); conv => whnf) | (refine LdN.at 0 rfl (by first | exact Nat.le_of_ble_eq_true rfl | (simp; done)) ?_; conv => whnf) | (refine LdN.at 2 rfl (by first | exact Nat.le_of_ble_eq_true rfl | (simp; done)) ?_; conv => whnf))
      | (refine St.at 0 rfl (by first | exact Nat.le_of_ble_eq_true rfl | (simp; done)) rfl ?_; conv => whnf)
      | ((with_reducible refine Dr.by (id := 5) Try.tysOk rfl [(0, 0), (3, 0), (4, 0), (5, 0), (1, 1), (2, 1), (6, 1), (7, 1), (8, 0), (9, 0)] ?_ ?_); (focus kernel_rfl); conv => whnf)
      | ((with_reducible refine CD.is (fun M => hcn _ _ _) ?_); conv => whnf))
    all_goals exact ⟨k + 1, u + 0, by kernel_rfl, by (refine FEnt.ent ?_; (repeat (first | exact FEnt.rfl | (refine FEnt.at 1 rfl ?_; (try simp only [List.eraseIdx_cons_zero, List.eraseIdx_cons_succ, List.eraseIdx_zero, List.tail_cons])) | refine FEnt.drop ?_)); done), ⟨by omega, by omega⟩, by omega⟩
  · subst hu
    conv => whnf
    repeat' ((with_reducible refine Br.df ?_ ?_); (focus (first | assumption | omega)); conv => whnf)
    all_goals (refine Is.ent ?_ ?_; (focus (refine FEnt.ent ?_; (repeat (first | exact FEnt.rfl | (refine FEnt.at 2 rfl ?_; (try simp only [List.eraseIdx_cons_zero, List.eraseIdx_cons_succ, List.eraseIdx_zero, List.tail_cons])) | refine FEnt.drop ?_)); done)); (exact Is.rfl))
theorem live_ok : slOk 20 [(1, 4, 14)] ([(1, 4, 14)] : List Slt).length := fun i hi => by
  have e : i = 0 := by simp at hi; exact hi
  subst e
  exact ⟨by decide, fun j hj => by omega⟩
theorem live_st : sortI (rawS [(1, 4, 14)] 1) = [4, 8] := by
  rw [starts_eq live_ok]
  decide
theorem live_nx : NthP ((sortI (rawS [(1, 4, 14)] 1)).map offP) 20 9 1 24 := by
  rw [live_st]
  obtain ⟨T, h1, h2, h3, h4, h5⟩ := next_ex (xs := [4, 8].map offP) (f := 20) (t := 9) ⟨by omega, by omega⟩ ⟨by omega, by omega⟩ ⟨4, by omega, by omega, (offs_in (by decide)).2 (by simp)⟩
  rw [offs_in (by decide)] at h3
  have h24 : ¬ 24 < T := fun h => h4 24 (by omega) h ((offs_in (by decide)).2 (by decide))
  have : T % 20 = 4 ∨ T % 20 = 8 := by simpa using h3
  have e : T = 24 := by omega
  rw [e] at h5
  exact h5
theorem Try.slLive (L : List HP) : Con Try.prog 10 [] L (Is (.bool true) L) := by
  have h0 := live_ok
  have hx := live_nx
  have hs := live_st
  obtain ⟨xs, hxs⟩ : ∃ xs : List Slt, xs = [(1, 4, 14)] := ⟨_, rfl⟩
  have hlen : xs.length = 1 := by rw [hxs]; rfl
  have e1 : stF 20 xs 29 = (1, 1, 1) := by rw [hxs]; decide
  have e2 : stF 20 xs 12 = (1, -1, 0) := by rw [hxs]; decide
  have hnw : ∀ (b : Nat) (L : List HP), Con Try.prog 8 [n64 20, .slice (some ⟨b, 0, none⟩) 1 1] (ptc b 54 [n64 1, n64 4, n64 14] :: L) (Exs (fun y : Nat × Option Addr × Nat => .tuple #[.pointer (some ⟨y.1, 0, none⟩), n64 0]) (fun y => ptc y.1 52 [n64 20, .slice y.2.1 1 y.2.2] :: own slE 54 y.2.1 y.2.2 xs :: ptc b 54 [n64 1, n64 4, n64 14] :: L) (fun y => 1 ≤ y.2.2 ∧ Ad y.2.1 1)) := fun b L => by
    rw [hxs]
    exact Try.slNewOk 20 _ _ [(1, 4, 14)] _ (by decide) ⟨by omega, by omega⟩ live_ok (Rd.ptc 0 rfl [(1, 4, 14)] rfl)
  rw [← hxs] at h0 hx hs
  have ha1 : ∀ b a c L, Ad a 1 → _ := fun b a c L (had : Ad a 1) => Try.slAt b 20 29 a c xs L (by omega) ⟨by omega, by omega⟩ h0 ⟨by omega, by omega⟩ (by rw [hlen]; exact had)
  have ha2 : ∀ b a c L, Ad a 1 → _ := fun b a c L (had : Ad a 1) => Try.slAt b 20 12 a c xs L (by omega) ⟨by omega, by omega⟩ h0 ⟨by omega, by omega⟩ (by rw [hlen]; exact had)
  have hu : ∀ b a c L, Ad a 1 → _ := fun b a c L (had : Ad a 1) => Try.slUnits b 20 1 a c xs L (by omega) ⟨by omega, by omega⟩ h0 (by rw [hlen]; exact had)
  have hn : ∀ b a c L, Ad a 1 → _ := fun b a c L (had : Ad a 1) => Try.slNext b 20 9 1 24 a c xs L (by omega) ⟨by omega, by omega⟩ h0 (by rw [hlen]; exact had) ⟨by omega, by omega⟩ hx
  rw [e1, hlen] at ha1
  rw [e2, hlen] at ha2
  rw [hs, hlen] at hu
  rw [hlen] at hn
  refine con_of Try.tysOk Try.func10 rfl rfl ?_
  conv => whnf
  repeat' (first
    | (first | ((with_reducible refine Br.tt ?_); conv => whnf) | ((with_reducible refine Br.dt ?_ ?_); (focus (first | assumption | omega)); conv => whnf) | ((with_reducible refine Br.yes ?_ ?_); (focus (first | (simp; done) | (simp; omega))); conv => whnf))
    | ((with_reducible refine Nd.mk ?_ ?_); (focus (first | omega | rfl | assumption | (simp; done))); conv => whnf)
    | ((with_reducible refine Nc.go' (fun _ => ?_)); conv => whnf)
    | (first | ((with_reducible refine (?_ : Cl _ 8 _ _ _ _)); (refine Cl.exs (hnw _ _) ?_; rintro ⟨bt, a2, c2⟩ ⟨hc2, had2⟩); conv => whnf) | ((with_reducible refine Cl.is (ha1 bt a2 c2 _ had2) ?_); conv => whnf) | ((with_reducible refine Cl.is (ha2 bt a2 c2 _ had2) ?_); conv => whnf) | ((with_reducible refine Cl.is (hu bt a2 c2 _ had2) ?_); conv => whnf) | ((with_reducible refine Cl.is (hn bt a2 c2 _ had2) ?_); conv => whnf)))
  all_goals (refine Is.ent ?_ ?_; (focus (refine FEnt.ent ?_; (repeat (first | exact FEnt.rfl | refine FEnt.drop ?_)); done)); (exact Is.rfl))
end Go.Proofs
