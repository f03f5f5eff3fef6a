/- Tables of wishes: contracts. -/
import Derived.Test.YtabonallopdgdaaConfC
import Derived.Test.YtabonallopdgdaaEngFrame
set_option linter.all false
namespace Go.Proofs
open Go.Eng
open Classical
set_option linter.unusedVariables false
set_option maxRecDepth 100000
set_option maxHeartbeats 2000000
/-- a wish -/
structure Wsh where
  z : Int
  r : Int
  q : Int
  u : Int
  s : Int
  p : Int
def wsE : Enc Wsh := ⟨6, fun x => [n64 x.z, n64 x.r, n64 x.q, n64 x.u, n64 x.s, n64 x.p], ⟨0, 0, 0, 0, 0, 0⟩, fun _ => rfl, by omega, fun _ => rfl⟩
abbrev wsV (x : Wsh) : Value := .agg #[n64 x.z, n64 x.r, n64 x.q, n64 x.u, n64 x.s, n64 x.p]
abbrev mayP (w : Wsh) (R : Int) (K : Prop) : Prop := (32 ≤ w.z ∧ w.z ≤ 1024 ∧ K ∧ R ≤ w.z) ∧ (1 ≤ w.q ∧ w.q ≤ 16 ∧ 0 ≤ w.u ∧ w.u ≤ 16) ∧ (0 ≤ w.s ∧ w.s ≤ 64 ∧ 1 ≤ w.p ∧ w.p ≤ 4096)
def mayW (w : Wsh) : Prop := mayP w (ringN w.r) (ringK w.r)
theorem half_k (m : Int) (h1 : 2 ≤ m) (h2 : m ≤ 16) (h3 : m % 2 = 0) : ringK (m / 2) ↔ ringK m := by
  have : m = 2 ∨ m = 4 ∨ m = 6 ∨ m = 8 ∨ m = 10 ∨ m = 12 ∨ m = 14 ∨ m = 16 := by omega
  rcases this with rfl | rfl | rfl | rfl | rfl | rfl | rfl | rfl <;> simp [ringK]
theorem odd_k (m : Int) (h1 : m ≠ 1) (h3 : m % 2 ≠ 0) : ¬ ringK m := by
  rintro (rfl | rfl | rfl | rfl | rfl) <;> simp at h1 h3
theorem Try.bldRight (n : Int) (L : List HP) : Con Try.prog 19 [n64 n] L (Is (.bool (decide (ringK n))) L) := by
  by_cases hn : 1 ≤ n ∧ n ≤ 16
  · refine con_of Try.tysOk Try.func19 rfl rfl ?_
    conv => whnf
    refine Sc.by Try.tysOk 0 rfl [0] (fun m : Int => [.int .i64 m]) (fun _ => L) (fun m => 1 ≤ m ∧ m ≤ 16 ∧ (ringK m ↔ ringK n)) (fun m => m.toNat) ?_ ?_
    · have h2 : n.tmod 2 = n % 2 := Int.tmod_eq_emod_of_nonneg (by omega)
      have h3 : n.tdiv 2 = n / 2 := Int.tdiv_eq_ediv_of_nonneg (by omega)
      conv => whnf
      repeat' (first
        | (first | ((with_reducible refine Br.ff ?_); conv => whnf) | ((with_reducible refine Br.df ?_ ?_); (focus (first | assumption | omega)); conv => whnf))
        | ((with_reducible refine Ar.i64 ?_ ?_); (focus omega); conv => whnf)
        | ((with_reducible refine Nd.mk ?_ ?_); (focus (first | omega | rfl | assumption | (simp; done))); conv => whnf)
        | (first | ((with_reducible refine Br.ds (fun _ => ?_) (fun _ => ?_) ) <;> (conv => whnf)) | ((with_reducible refine Br.nds (fun _ => ?_) (fun _ => ?_) ) <;> (conv => whnf))))
      all_goals first | exact Is.ent (by (exact Ent.rfl)) (Is.tt (by omega)) | exact Is.ent (by (exact Ent.rfl)) (Is.ff (odd_k n (by omega) (by omega))) | exact ⟨n.tdiv 2, by kernel_rfl, Ent.rfl, by omega, by omega, by rw [h3]; exact half_k n (by omega) (by omega) (by omega)⟩ | (exfalso; omega)
    · rintro m ⟨m1, m2, m3⟩
      have h2 : m.tmod 2 = m % 2 := Int.tmod_eq_emod_of_nonneg (by omega)
      have h3 : m.tdiv 2 = m / 2 := Int.tdiv_eq_ediv_of_nonneg (by omega)
      conv => whnf
      repeat (intro _; conv => whnf)
      conv => whnf
      repeat' (first
        | ((with_reducible refine Ar.i64 ?_ ?_); (focus omega); conv => whnf)
        | ((with_reducible refine Nd.mk ?_ ?_); (focus (first | omega | rfl | assumption | (simp; done))); conv => whnf)
        | (first | ((with_reducible refine Br.ds (fun _ => ?_) (fun _ => ?_) ) <;> (conv => whnf)) | ((with_reducible refine Br.nds (fun _ => ?_) (fun _ => ?_) ) <;> (conv => whnf))))
      · exact Is.ent (by (exact Ent.rfl)) (Is.tt (m3.1 (by omega)))
      · exact Is.ent (by (exact Ent.rfl)) (Is.ff (fun h => odd_k m (by omega) (by omega) (m3.2 h)))
      · exact ⟨m.tdiv 2, by kernel_rfl, Ent.rfl, ⟨by omega, by omega, by rw [h3]; exact (half_k m (by omega) (by omega) (by omega)).trans m3⟩, by omega⟩
  · refine con_of Try.tysOk Try.func19 rfl rfl ?_
    conv => whnf
    refine Sc.plain Try.tysOk ?_
    conv => whnf
    repeat' (first
      | (first | ((with_reducible refine Br.tt ?_); conv => whnf) | ((with_reducible refine Br.ff ?_); conv => whnf) | ((with_reducible refine Br.dt ?_ ?_); (focus (first | assumption | omega)); conv => whnf))
      | ((with_reducible refine Br.ds (fun _ => ?_) (fun _ => ?_) ) <;> (conv => whnf)))
    all_goals first | exact Is.ent (by (exact Ent.rfl)) (Is.ff (by omega)) | (exfalso; omega)
theorem Try.bldSize (n : Int) (L : List HP) : Con Try.prog 20 [n64 n] L (Is (n64 (ringN n)) L) := by
  unfold ringN
  by_cases h : ringK n
  · have hr := fun L => Con.dt h (Try.bldRight n L)
    rw [if_pos h]
    refine con_of Try.tysOk Try.func20 rfl rfl ?_
    conv => whnf
    repeat' (first
      | ((with_reducible refine Br.nt ?_); conv => whnf)
      | ((with_reducible refine Ar.i64 ?_ ?_); (focus omega); conv => whnf)
      | ((with_reducible refine Cl.is (hr _) ?_); conv => whnf))
    all_goals (refine Is.ent ?_ ?_; (focus (exact Ent.rfl)); (exact Is.rfl))
  · have hr := fun L => Con.df h (Try.bldRight n L)
    rw [if_neg h]
    refine con_of Try.tysOk Try.func20 rfl rfl ?_
    conv => whnf
    repeat' (first
      | ((with_reducible refine Br.nf ?_); conv => whnf)
      | ((with_reducible refine Cl.is (hr _) ?_); conv => whnf))
    all_goals (refine Is.ent ?_ ?_; (focus (exact Ent.rfl)); (exact Is.rfl))
theorem Try.bldIn (n a b : Int) (L : List HP) : Con Try.prog 18 [n64 n, n64 a, n64 b] L (Is (.bool (decide (a ≤ n ∧ n ≤ b))) L) := by
  refine con_of Try.tysOk Try.func18 rfl rfl ?_
  conv => whnf
  repeat' (first
    | (first | ((with_reducible refine Br.tt ?_); conv => whnf) | ((with_reducible refine Br.ff ?_); conv => whnf))
    | ((with_reducible refine Br.ds (fun _ => ?_) (fun _ => ?_) ) <;> (conv => whnf)))
  all_goals (refine Is.ent ?_ ?_; (focus (exact Ent.rfl)); (first | exact Is.ff (by omega) | (refine Is.dec ?_; omega)))
theorem con_iff {f : FuncId} {P : Program} {args : List Value} {L M : List HP} {p q : Prop} {ip : Decidable p} {iq : Decidable q} (h : p ↔ q) (c : Con P f args L (Is (.bool (decide p)) M)) : Con P f args L (Is (.bool (decide q)) M) := by
  rwa [decide_eq_decide.2 h] at c
theorem Try.bldMayT (w : Wsh) (L : List HP) (R : Int) (K : Prop) (hk : K) (hR : 0 ≤ R ∧ R ≤ 130) (hs : ∀ L, Con Try.prog 20 [n64 w.r] L (Is (n64 R) L)) (hr2 : ∀ L, Con Try.prog 19 [n64 w.r] L (Is (.bool true) L)) :
    Con Try.prog 7 [wsV w] L (Is (.bool (decide (mayP w R K))) L) := by
  refine con_of Try.tysOk Try.func7 rfl rfl ?_
  conv => whnf
  repeat' (first
    | (first | ((with_reducible refine Br.tt ?_); conv => whnf) | ((with_reducible refine Br.ff ?_); conv => whnf) | ((with_reducible refine Br.nt ?_); conv => whnf))
    | ((with_reducible refine Nc.go' (fun _ => ?_)); conv => whnf)
    | (refine Ld.at 0 rfl rfl ?_; conv => whnf)
    | ((with_reducible refine Dr.by (id := 1) Try.tysOk rfl [(0, 0), (1, 1), (2, 1), (3, 0), (4, 0), (5, 0), (6, 1), (7, 1), (8, 0), (9, 0), (10, 0), (11, 0), (14, 0), (12, 1), (13, 1), (15, 1), (16, 0), (17, 0), (18, 0)] ?_ ?_); (focus kernel_rfl); conv => whnf)
    | (first | ((with_reducible refine CD.is (fun M => hr2 _) ?_); conv => whnf) | ((with_reducible refine CD.is (fun M => hs _) ?_); conv => whnf) | ((with_reducible refine CD.is (fun M => Try.bldIn _ _ _ _) ?_); conv => whnf))
    | ((with_reducible refine Cl.is (Try.bldIn _ _ _ _) ?_); conv => whnf)
    | (first | ((with_reducible refine Br.ds (fun _ => ?_) (fun _ => ?_) ) <;> (conv => whnf)) | ((with_reducible refine Br.nds (fun _ => ?_) (fun _ => ?_) ) <;> (conv => whnf))))
  all_goals (refine Is.ent (by (refine FEnt.ent ?_; (repeat (first | exact FEnt.rfl | refine FEnt.drop ?_)); done)) ?_; first | exact Is.ff (fun h => by have h1 := h.1.1; have h2 := h.1.2.1; have h3 := h.1.2.2.2; have h4 := h.2.1; have h5 := h.2.2; omega) | exact Is.dec ⟨fun g => ⟨⟨by omega, by omega, hk, by omega⟩, ⟨by omega, by omega, by omega, by omega⟩, by omega, by omega, by omega, by omega⟩, fun h => by have h5 := h.2.2; omega⟩)
theorem Try.bldMayF (w : Wsh) (L : List HP) (R : Int) (K : Prop) (hk : ¬ K) (hR : 0 ≤ R ∧ R ≤ 130) (hr2 : ∀ L, Con Try.prog 19 [n64 w.r] L (Is (.bool false) L)) :
    Con Try.prog 7 [wsV w] L (Is (.bool (decide (mayP w R K))) L) := by
  refine con_of Try.tysOk Try.func7 rfl rfl ?_
  conv => whnf
  repeat' (first
    | (first | ((with_reducible refine Br.tt ?_); conv => whnf) | ((with_reducible refine Br.ff ?_); conv => whnf) | ((with_reducible refine Br.nf ?_); conv => whnf))
    | ((with_reducible refine Nc.go' (fun _ => ?_)); conv => whnf)
    | (refine Ld.at 0 rfl rfl ?_; conv => whnf)
    | ((with_reducible refine Dr.by (id := 1) Try.tysOk rfl [(0, 0), (1, 1), (2, 1), (3, 0), (4, 0), (5, 0), (6, 1), (7, 1), (8, 0), (9, 0), (10, 0), (11, 0), (14, 0), (12, 1), (13, 1), (15, 1), (16, 0), (17, 0), (18, 0)] ?_ ?_); (focus kernel_rfl); conv => whnf)
    | (first | ((with_reducible refine CD.is (fun M => hr2 _) ?_); conv => whnf) | ((with_reducible refine CD.is (fun M => Try.bldIn _ _ _ _) ?_); conv => whnf))
    | ((with_reducible refine Br.nds (fun _ => ?_) (fun _ => ?_) ) <;> (conv => whnf)))
  all_goals exact Is.ent (by (refine FEnt.ent ?_; (repeat (first | exact FEnt.rfl | refine FEnt.drop ?_)); done)) (Is.ff (fun h => hk h.1.2.2.1))
theorem Try.bldMay (w : Wsh) (L : List HP) : Con Try.prog 7 [wsV w] L (Is (.bool (decide (mayW w))) L) := by
  by_cases hk : ringK w.r
  · exact con_iff (p := mayP w (ringN w.r) (ringK w.r)) (q := mayW w) Iff.rfl (Try.bldMayT w L (ringN w.r) (ringK w.r) hk (ringN_bd _) (fun L => Try.bldSize w.r L) (fun L => Con.dt hk (Try.bldRight w.r L)))
  · exact con_iff (p := mayP w (ringN w.r) (ringK w.r)) (q := mayW w) Iff.rfl (Try.bldMayF w L (ringN w.r) (ringK w.r) hk (ringN_bd _) (fun L => Con.df hk (Try.bldRight w.r L)))
/-- its row, but for where it stands -/
abbrev cliW (w : Wsh) : Cli := ⟨0, w.z, w.r, w.z - ringN w.r, w.q, w.u, 0, 0, 0, w.s⟩
theorem Try.bldClient (w : Wsh) (L : List HP) (h : mayW w) : Con Try.prog 25 [wsV w] L (Is (clV (cliW w)) L) := by
  have hR := ringN_bd w.r
  have hs := fun L => Try.bldSize w.r L
  have hz := h.1
  have hz1 : 32 ≤ w.z ∧ w.z ≤ 1024 := ⟨hz.1, hz.2.1⟩
  clear hz h
  unfold cliW clV
  generalize ringN w.r = R at *
  refine con_of Try.tysOk Try.func25 rfl rfl ?_
  conv => whnf
  repeat' (first
    | ((with_reducible refine Ar.i64 ?_ ?_); (focus omega); conv => whnf)
    | ((with_reducible refine Nd.mk ?_ ?_); (focus (first | omega | rfl | assumption | (simp; done))); conv => whnf)
    | ((with_reducible refine Nc.go' (fun _ => ?_)); conv => whnf)
    | (refine Ld.at 1 rfl rfl ?_; conv => whnf)
    | (refine LdN.at 0 rfl (by first | exact Nat.le_of_ble_eq_true rfl | (simp; done)) ?_; conv => whnf)
    | (refine St.at 0 rfl (by first | exact Nat.le_of_ble_eq_true rfl | (simp; done)) rfl ?_; conv => whnf)
    | ((with_reducible refine Dr.by (id := 1) Try.tysOk rfl [(0, 0), (2, 0), (4, 0), (6, 0), (10, 0), (12, 0), (14, 0), (1, 1), (3, 1), (5, 1), (7, 1), (8, 1), (9, 0), (11, 1), (13, 1), (15, 1), (16, 0), (17, 3)] ?_ ?_); (focus kernel_rfl); conv => whnf)
    | ((with_reducible refine CD.is (fun M => hs _) ?_); conv => whnf))
  all_goals (refine Is.ent ?_ ?_; (focus (refine FEnt.ent ?_; (repeat (first | exact FEnt.rfl | refine FEnt.drop ?_)); done)); (exact Is.rfl))
theorem Try.bldBus (w : Wsh) (L : List HP) (h : mayW w) : Con Try.prog 26 [wsV w] L (Is (n64 (w.q * 4)) L) := by
  have hz : 1 ≤ w.q ∧ w.q ≤ 16 := ⟨h.2.1.1, h.2.1.2.1⟩
  refine con_of Try.tysOk Try.func26 rfl rfl ?_
  conv => whnf
  repeat' (first
    | ((with_reducible refine Ar.i64 ?_ ?_); (focus omega); conv => whnf)
    | ((with_reducible refine Nc.go' (fun _ => ?_)); conv => whnf)
    | (refine Ld.at 0 rfl rfl ?_; conv => whnf))
  all_goals (refine Is.ent ?_ ?_; (focus (refine FEnt.ent ?_; (repeat (first | exact FEnt.rfl | refine FEnt.drop ?_)); done)); (exact Is.rfl))
theorem Try.bldRow (v : Int) (L : List HP) : Con Try.prog 24 [n64 v] L (Exs (fun b : Nat => .func (.func 45) #[] #[.pointer (some ⟨b, 0, none⟩)]) (fun b => ptc b 3 [n64 v] :: L) (fun _ => True)) := by
  refine con_of Try.tysOk Try.func24 rfl rfl ?_
  conv => whnf
  repeat' ((with_reducible refine Nc.go' (fun _ => ?_)); conv => whnf)
  rename_i b
  all_goals exact Exs.of b (by (exact Ent.rfl)) trivial rfl
theorem Try.bldRow1 (b : Nat) (v s : Int) (L : List HP) (h : I64 (v + s)) : Con Try.prog 45 [n64 s, .pointer (some ⟨b, 0, none⟩)] (ptc b 3 [n64 v] :: L) (Is (spV v (v + s)) (ptc b 3 [n64 (v + s)] :: L)) := by
  refine con_of Try.tysOk Try.func45 rfl rfl ?_
  conv => whnf
  repeat' (first
    | ((with_reducible refine Ar.i64 ?_ ?_); (focus omega); conv => whnf)
    | ((with_reducible refine Nd.mk ?_ ?_); (focus (first | omega | rfl | assumption | (simp; done))); conv => whnf)
    | ((with_reducible refine Nc.go' (fun _ => ?_)); conv => whnf)
    | (first | (refine Ld.at 0 rfl rfl ?_; conv => whnf) | (refine Ld.at 1 rfl rfl ?_; conv => whnf))
    | (first | (refine LdN.at 0 rfl (by first | exact Nat.le_of_ble_eq_true rfl | (simp; done)) ?_; conv => whnf) | (refine LdN.at 1 rfl (by first | exact Nat.le_of_ble_eq_true rfl | (simp; done)) ?_; conv => whnf))
    | (first | (refine St.at 0 rfl (by first | exact Nat.le_of_ble_eq_true rfl | (simp; done)) rfl ?_; conv => whnf) | (refine St.at 1 rfl (by first | exact Nat.le_of_ble_eq_true rfl | (simp; done)) rfl ?_; conv => whnf) | (refine St.at 2 rfl (by first | exact Nat.le_of_ble_eq_true rfl | (simp; done)) rfl ?_; conv => whnf)))
  all_goals (refine Is.ent ?_ ?_; (focus (refine FEnt.ent ?_; (repeat (first | exact FEnt.rfl | (refine FEnt.at 2 rfl ?_; (try simp only [List.eraseIdx_cons_zero, List.eraseIdx_cons_succ, List.eraseIdx_zero, List.tail_cons])) | refine FEnt.drop ?_)); done)); (exact Is.rfl))
theorem Try.bldRow2 (b : Nat) (v s : Int) (X : HP) (L : List HP) (h : I64 (v + s)) : Con Try.prog 45 [n64 s, .pointer (some ⟨b, 0, none⟩)] (X :: ptc b 3 [n64 v] :: L) (Is (spV v (v + s)) (X :: ptc b 3 [n64 (v + s)] :: L)) := by
  refine con_of Try.tysOk Try.func45 rfl rfl ?_
  conv => whnf
  repeat' (first
    | ((with_reducible refine Ar.i64 ?_ ?_); (focus omega); conv => whnf)
    | ((with_reducible refine Nd.mk ?_ ?_); (focus (first | omega | rfl | assumption | (simp; done))); conv => whnf)
    | ((with_reducible refine Nc.go' (fun _ => ?_)); conv => whnf)
    | (first | (refine Ld.at 0 rfl rfl ?_; conv => whnf) | (refine Ld.at 2 rfl rfl ?_; conv => whnf))
    | (first | (refine LdN.at 0 rfl (by first | exact Nat.le_of_ble_eq_true rfl | (simp; done)) ?_; conv => whnf) | (refine LdN.at 1 rfl (by first | exact Nat.le_of_ble_eq_true rfl | (simp; done)) ?_; conv => whnf))
    | (first | (refine St.at 0 rfl (by first | exact Nat.le_of_ble_eq_true rfl | (simp; done)) rfl ?_; conv => whnf) | (refine St.at 1 rfl (by first | exact Nat.le_of_ble_eq_true rfl | (simp; done)) rfl ?_; conv => whnf) | (refine St.at 3 rfl (by first | exact Nat.le_of_ble_eq_true rfl | (simp; done)) rfl ?_; conv => whnf)))
  all_goals (refine Is.ent ?_ ?_; (focus (refine FEnt.ent ?_; (repeat (first | exact FEnt.rfl | (refine FEnt.at 2 rfl ?_; (try simp only [List.eraseIdx_cons_zero, List.eraseIdx_cons_succ, List.eraseIdx_zero, List.tail_cons])) | refine FEnt.drop ?_)); done)); (exact Is.rfl))
theorem Try.bldRow3 (b : Nat) (v s : Int) (X Y : HP) (L : List HP) (h : I64 (v + s)) : Con Try.prog 45 [n64 s, .pointer (some ⟨b, 0, none⟩)] (X :: Y :: ptc b 3 [n64 v] :: L) (Is (spV v (v + s)) (X :: Y :: ptc b 3 [n64 (v + s)] :: L)) := by
  refine con_of Try.tysOk Try.func45 rfl rfl ?_
  conv => whnf
  repeat' (first
    | ((with_reducible refine Ar.i64 ?_ ?_); (focus omega); conv => whnf)
    | ((with_reducible refine Nd.mk ?_ ?_); (focus (first | omega | rfl | assumption | (simp; done))); conv => whnf)
    | ((with_reducible refine Nc.go' (fun _ => ?_)); conv => whnf)
    | (first | (refine Ld.at 0 rfl rfl ?_; conv => whnf) | (refine Ld.at 3 rfl rfl ?_; conv => whnf))
    | (first | (refine LdN.at 0 rfl (by first | exact Nat.le_of_ble_eq_true rfl | (simp; done)) ?_; conv => whnf) | (refine LdN.at 1 rfl (by first | exact Nat.le_of_ble_eq_true rfl | (simp; done)) ?_; conv => whnf))
    | (first | (refine St.at 0 rfl (by first | exact Nat.le_of_ble_eq_true rfl | (simp; done)) rfl ?_; conv => whnf) | (refine St.at 1 rfl (by first | exact Nat.le_of_ble_eq_true rfl | (simp; done)) rfl ?_; conv => whnf) | (refine St.at 4 rfl (by first | exact Nat.le_of_ble_eq_true rfl | (simp; done)) rfl ?_; conv => whnf)))
  all_goals (refine Is.ent ?_ ?_; (focus (refine FEnt.ent ?_; (repeat (first | exact FEnt.rfl | (refine FEnt.at 2 rfl ?_; (try simp only [List.eraseIdx_cons_zero, List.eraseIdx_cons_succ, List.eraseIdx_zero, List.tail_cons])) | refine FEnt.drop ?_)); done)); (exact Is.rfl))
theorem Try.bldRow4 (b : Nat) (v s : Int) (X Y Z : HP) (L : List HP) (h : I64 (v + s)) : Con Try.prog 45 [n64 s, .pointer (some ⟨b, 0, none⟩)] (X :: Y :: Z :: ptc b 3 [n64 v] :: L) (Is (spV v (v + s)) (X :: Y :: Z :: ptc b 3 [n64 (v + s)] :: L)) := by
  refine con_of Try.tysOk Try.func45 rfl rfl ?_
  conv => whnf
  repeat' (first
    | ((with_reducible refine Ar.i64 ?_ ?_); (focus omega); conv => whnf)
    | ((with_reducible refine Nd.mk ?_ ?_); (focus (first | omega | rfl | assumption | (simp; done))); conv => whnf)
    | ((with_reducible refine Nc.go' (fun _ => ?_)); conv => whnf)
    | (first | (refine Ld.at 0 rfl rfl ?_; conv => whnf) | (refine Ld.at 4 rfl rfl ?_; conv => whnf))
    | (first | (refine LdN.at 0 rfl (by first | exact Nat.le_of_ble_eq_true rfl | (simp; done)) ?_; conv => whnf) | (refine LdN.at 1 rfl (by first | exact Nat.le_of_ble_eq_true rfl | (simp; done)) ?_; conv => whnf))
    | (first | (refine St.at 0 rfl (by first | exact Nat.le_of_ble_eq_true rfl | (simp; done)) rfl ?_; conv => whnf) | (refine St.at 1 rfl (by first | exact Nat.le_of_ble_eq_true rfl | (simp; done)) rfl ?_; conv => whnf) | (refine St.at 5 rfl (by first | exact Nat.le_of_ble_eq_true rfl | (simp; done)) rfl ?_; conv => whnf)))
  all_goals (refine Is.ent ?_ ?_; (focus (refine FEnt.ent ?_; (repeat (first | exact FEnt.rfl | (refine FEnt.at 2 rfl ?_; (try simp only [List.eraseIdx_cons_zero, List.eraseIdx_cons_succ, List.eraseIdx_zero, List.tail_cons])) | refine FEnt.drop ?_)); done)); (exact Is.rfl))
theorem Try.wiIndex (a : Option Addr) (c : Nat) (xs : List Wsh) (L : List HP) (hb : xs.length < 9223372036854775807) (hr : Rd wsE L a xs) (g : FuncId) (cs : List Value) (p : Wsh → Bool)
    (hg : ∀ x ∈ xs, Con Try.prog g (wsV x :: cs) L (Is (.bool (p x)) L)) :
    Con Try.prog 22 [.slice a xs.length c, .func (.func g) #[] cs.toArray] L (Is (.int .i64 (idxF p xs)) L) := by
  refine con_of Try.tysOk Try.func22 rfl rfl ?_
  conv => whnf
  refine Lp.by Try.tysOk [8] (fun k : Nat => [.int .i64 k]) (fun _ => L) (fun k => k ≤ xs.length ∧ ∀ i, i < k → p (xs.getD i wsE.d) = false) (fun k => xs.length - k) (0) (by kernel_rfl) (by (exact Ent.rfl)) (⟨by omega, fun i h => by omega⟩) ?_
  rintro k ⟨h1, h2⟩
  conv => whnf
  repeat (intro _; conv => whnf)
  by_cases hk : k < xs.length
  · conv => whnf
    repeat' (first
      | ((with_reducible refine Br.dt ?_ ?_); (focus (first | assumption | omega)); conv => whnf)
      | ((with_reducible refine Ix.ad ?_ ?_ ?_); (focus (exact Rd.ad (by assumption))); (focus (omega)); conv => whnf)
      | ((with_reducible apply LdN.rdk); (focus ((repeat (assumption)); done)); (focus rfl); (focus rfl); (focus (omega)); conv => whnf))
    rw [forceL_eq]
    refine Cl.is (hg _ (getD_mem (d := wsE.d) hk)) ?_
    conv => whnf
    repeat' (first
      | ((with_reducible refine Ar.i64 ?_ ?_); (focus omega); conv => whnf)
      | ((with_reducible refine Br.bs (fun _ => ?_) (fun _ => ?_) ) <;> (conv => whnf)))
    · rw [idxF_at wsE.d p xs k (by omega) (by assumption) h2]
      exact Is.ent (by (exact Ent.rfl)) Is.rfl
    · refine ⟨k + 1, by kernel_rfl, by (exact Ent.rfl), ⟨by omega, lt_step h2 (by assumption)⟩, by omega⟩
  · conv => whnf
    repeat' ((with_reducible refine Br.df ?_ ?_); (focus (first | assumption | omega)); conv => whnf)
    rw [idxF_no wsE.d p xs (fun i hi => h2 i (by omega))]
    exact Is.ent (by (exact Ent.rfl)) Is.rfl
theorem Try.bldNot (w : Wsh) (L : List HP) : Con Try.prog 23 [wsV w] L (Is (.bool (!decide (mayW w))) L) := by
  have h := fun L => Try.bldMay w L
  refine con_of Try.tysOk Try.func23 rfl rfl ?_
  conv => whnf
  repeat' (first
    | ((with_reducible refine Nc.go' (fun _ => ?_)); conv => whnf)
    | (refine LdN.at 0 rfl (by first | exact Nat.le_of_ble_eq_true rfl | (simp; done)) ?_; conv => whnf)
    | ((with_reducible refine Cl.is (h _) ?_); conv => whnf))
  all_goals (refine Is.ent ?_ ?_; (focus (refine FEnt.ent ?_; (repeat (first | exact FEnt.rfl | refine FEnt.drop ?_)); done)); (exact Is.rfl))
end Go.Proofs
