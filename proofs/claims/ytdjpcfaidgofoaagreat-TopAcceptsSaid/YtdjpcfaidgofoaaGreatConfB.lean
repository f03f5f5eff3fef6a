/- A machine's tables: is anything wrong: contracts. -/
import Derived.Test.YtdjpcfaidgofoaaGreatTopB
set_option linter.all false
namespace Go.Proofs
open Go.Eng
open Classical
set_option linter.unusedVariables false
set_option maxRecDepth 100000
set_option maxHeartbeats 1000000
/-! what may be wrong -/
def b2 (C : Cfg) (i : Nat) : Prop := ¬ goodC (cX C i)
def b3 (C : Cfg) (i : Nat) : Prop := goodC (cX C i) ∧ ∃ j, j < i ∧ goodC (cX C j) ∧ sameC (cX C i) (cX C j)
def b4 (C : Cfg) (i : Nat) : Prop := ¬ goodW C (cW C i)
abbrev meetW (x y : Slt) : Prop := meetS x.2.1 x.2.2 y.2.1 y.2.2
def b5 (C : Cfg) (i : Nat) : Prop := ∃ j, j < i ∧ (meetW (cW C i) (cW C j) ∨ (cW C i).1 = (cW C j).1)
def b6 (C : Cfg) (o : Nat) : Prop := ¬ ∃ j, j < C.ws.length ∧ (cW C j).1 = o
def b7 (C : Cfg) : Prop := ∃ k, k < C.ws.length ∧ (cW C k).1 = 0 ∧ (∀ j, j < k → ¬ (cW C j).1 = 0) ∧ goodW C (cW C k) ∧ (cW C k).2.2 - (cW C k).2.1 < 2 * C.xs.length
def b8 (C : Cfg) (i : Nat) : Prop := ¬ goodS C (cS C i)
def b9 (C : Cfg) (i : Nat) : Prop := ∃ j, j < i ∧ meetW (cS C i) (cS C j)
/-- how many units an owner's slots have -/
noncomputable def unN (C : Cfg) (o : Int) (k : Nat) : Int := ((C.ss.take k).map fun s => if s.1 = o ∧ goodS C s then (s.2.2 - s.2.1) / 4 else 0).sum
noncomputable def unF (C : Cfg) (o : Int) : Int := if frF C then unN C o C.ss.length else 0
theorem unN_succ {C : Cfg} {o : Int} {k : Nat} (hk : k < C.ss.length) : unN C o (k + 1) = unN C o k + if (cS C k).1 = o ∧ goodS C (cS C k) then ((cS C k).2.2 - (cS C k).2.1) / 4 else 0 := by
  unfold unN
  rw [List.take_add_one, List.getElem?_eq_getElem hk, List.map_append, List.sum_append]
  have e : cS C k = C.ss[k] := by simp [cS, List.getD, hk]
  rw [e]
  simp
theorem unN_bd {C : Cfg} {o : Int} (hf : frF C) : ∀ k, k ≤ C.ss.length → 0 ≤ unN C o k ∧ unN C o k ≤ 1024 * k := by
  intro k
  induction k with
  | zero => intro _; simp [unN]
  | succ k ih =>
    intro hk
    have h1 := ih (by omega)
    rw [unN_succ (by omega)]
    split
    · rename_i h
      have h2 := h.2.2.1
      omega
    · omega
def b10 (C : Cfg) (i : Nat) : Prop := unF C ((i : Int) + 1) < (cX C i).q
structure Right (C : Cfg) : Prop where
  f : frF C
  r2 : ∀ i, i < C.xs.length → ¬ b2 C i
  r3 : ∀ i, i < C.xs.length → ¬ b3 C i
  r4 : ∀ i, i < C.ws.length → ¬ b4 C i
  r5 : ∀ i, i < C.ws.length → ¬ b5 C i
  r6 : ∀ o, o < C.xs.length + 1 → ¬ b6 C o
  r7 : ¬ b7 C
  r8 : ∀ i, i < C.ss.length → ¬ b8 C i
  r9 : ∀ i, i < C.ss.length → ¬ b9 C i
  r10 : ∀ i, i < C.xs.length → ¬ b10 C i
/-! searches -/
theorem Tryz.wnIndex (a : Option Addr) (c : Nat) (xs : List Slt) (L : List HP) (hb : xs.length < 9223372036854775807) (hr : Rd slE L a xs) (g : FuncId) (cs : List Value) (p : Slt → Bool)
    (hg : ∀ o f t, Con Tryz.prog g (slV o f t :: cs) L (Is (.bool (p (o, f, t))) L)) :
    Con Tryz.prog 108 [.slice a xs.length c, .func (.func g) #[] cs.toArray] L (Is (.int .i64 (idxF p xs)) L) := by
  refine con_of Tryz.tysOk Tryz.func108 rfl rfl ?_
  conv => whnf
  refine Lp.by Tryz.tysOk [8] (fun k : Nat => [.int .i64 k]) (fun _ => L) (fun k => k ≤ xs.length ∧ ∀ i, i < k → p (xs.getD i slE.d) = false) (fun k => xs.length - k) (0) (by kernel_rfl) (by (exact Ent.rfl)) (⟨by omega, fun i h => by omega⟩) ?_
  rintro k ⟨h1, h2⟩
  conv => whnf
  repeat (intro _; conv => whnf)
  conv => whnf
  repeat' (first
    | ((with_reducible refine Ix.ad ?_ ?_ ?_); (focus (exact Rd.ad (by assumption))); (focus (omega)); conv => whnf)
    | ((with_reducible apply LdN.rdk); (focus ((repeat (assumption)); done)); (focus rfl); (focus rfl); (focus (omega)); conv => whnf)
    | ((with_reducible refine Br.ds (fun _ => ?_) (fun _ => ?_) ) <;> (conv => whnf)))
  · rw [forceL_eq]
    refine Cl.is (hg _ _ _) ?_
    conv => whnf
    repeat' (first
      | ((with_reducible refine Ar.i64 ?_ ?_); (focus omega); conv => whnf)
      | ((with_reducible refine Br.bs (fun _ => ?_) (fun _ => ?_) ) <;> (conv => whnf)))
    · rw [idxF_at slE.d p xs k (by omega) (by assumption) h2]
      exact Is.ent (by (exact Ent.rfl)) Is.rfl
    · refine ⟨k + 1, by kernel_rfl, by (exact Ent.rfl), ⟨by omega, lt_step h2 (by assumption)⟩, by omega⟩
  · rw [idxF_no slE.d p xs (fun i hi => h2 i (by omega))]
    exact Is.ent (by (exact Ent.rfl)) Is.rfl
theorem Tryz.wnContains (a : Option Addr) (c : Nat) (xs : List Slt) (L : List HP) (hb : xs.length < 9223372036854775807) (hr : Rd slE L a xs) (g : FuncId) (cs : List Value) (p : Slt → Bool)
    (hg : ∀ o f t, Con Tryz.prog g (slV o f t :: cs) L (Is (.bool (p (o, f, t))) L)) :
    Con Tryz.prog 105 [.slice a xs.length c, .func (.func g) #[] cs.toArray] L (Is (.bool (decide (∃ i, i < xs.length ∧ p (xs.getD i slE.d) = true))) L) := by
  refine con_of Tryz.tysOk Tryz.func105 rfl rfl ?_
  conv => whnf
  repeat' ((with_reducible refine Cl.is (Tryz.wnIndex _ _ _ _ hb hr _ _ p hg) ?_); conv => whnf)
  refine Is.ent (by (exact Ent.rfl)) (Is.dec ?_)
  rcases idxF_spec slE.d p xs with ⟨h1, h2⟩ | ⟨m, h1, h2, h3, h4⟩
  · rw [h1]
    exact ⟨fun h => by omega, fun ⟨i, hi, hp⟩ => by rw [h2 i hi] at hp; cases hp⟩
  · rw [h2]
    exact ⟨fun _ => ⟨m, h1, h3⟩, fun _ => by omega⟩
theorem Tryz.clIndex (a : Option Addr) (c : Nat) (xs : List Cli) (L : List HP) (hb : xs.length < 9223372036854775807) (hr : Rd clE L a xs) (g : FuncId) (cs : List Value) (p : Cli → Bool)
    (hg : ∀ x ∈ xs, Con Tryz.prog g (clV x :: cs) L (Is (.bool (p x)) L)) :
    Con Tryz.prog 162 [.slice a xs.length c, .func (.func g) #[] cs.toArray] L (Is (.int .i64 (idxF p xs)) L) := by
  refine con_of Tryz.tysOk Tryz.func162 rfl rfl ?_
  conv => whnf
  refine Lp.by Tryz.tysOk [8] (fun k : Nat => [.int .i64 k]) (fun _ => L) (fun k => k ≤ xs.length ∧ ∀ i, i < k → p (xs.getD i clE.d) = false) (fun k => xs.length - k) (0) (by kernel_rfl) (by (exact Ent.rfl)) (⟨by omega, fun i h => by omega⟩) ?_
  rintro k ⟨h1, h2⟩
  conv => whnf
  repeat (intro _; conv => whnf)
  by_cases hk : k < xs.length
  · conv => whnf
    repeat' (first
      | ((with_reducible refine Br.dt ?_ ?_); (focus (first | assumption | omega)); conv => whnf)
      | ((with_reducible refine Ix.ad ?_ ?_ ?_); (focus (exact Rd.ad (by assumption))); (focus (omega)); conv => whnf)
      | ((with_reducible apply LdN.rdk); (focus ((repeat (assumption)); done)); (focus rfl); (focus rfl); (focus (omega)); conv => whnf))
    rw [forceL_eq]
    refine Cl.is (hg _ (getD_mem (d := clE.d) hk)) ?_
    conv => whnf
    repeat' (first
      | ((with_reducible refine Ar.i64 ?_ ?_); (focus omega); conv => whnf)
      | ((with_reducible refine Br.bs (fun _ => ?_) (fun _ => ?_) ) <;> (conv => whnf)))
    · rw [idxF_at clE.d p xs k (by omega) (by assumption) h2]
      exact Is.ent (by (exact Ent.rfl)) Is.rfl
    · refine ⟨k + 1, by kernel_rfl, by (exact Ent.rfl), ⟨by omega, lt_step h2 (by assumption)⟩, by omega⟩
  · conv => whnf
    repeat' ((with_reducible refine Br.df ?_ ?_); (focus (first | assumption | omega)); conv => whnf)
    rw [idxF_no clE.d p xs (fun i hi => h2 i (by omega))]
    exact Is.ent (by (exact Ent.rfl)) Is.rfl
theorem Tryz.clContains (a : Option Addr) (c : Nat) (xs : List Cli) (L : List HP) (hb : xs.length < 9223372036854775807) (hr : Rd clE L a xs) (g : FuncId) (cs : List Value) (p : Cli → Bool)
    (hg : ∀ x ∈ xs, Con Tryz.prog g (clV x :: cs) L (Is (.bool (p x)) L)) :
    Con Tryz.prog 113 [.slice a xs.length c, .func (.func g) #[] cs.toArray] L (Is (.bool (decide (∃ i, i < xs.length ∧ p (xs.getD i clE.d) = true))) L) := by
  refine con_of Tryz.tysOk Tryz.func113 rfl rfl ?_
  conv => whnf
  repeat' ((with_reducible refine Cl.is (Tryz.clIndex _ _ _ _ hb hr _ _ p hg) ?_); conv => whnf)
  refine Is.ent (by (exact Ent.rfl)) (Is.dec ?_)
  rcases idxF_spec clE.d p xs with ⟨h1, h2⟩ | ⟨m, h1, h2, h3, h4⟩
  · rw [h1]
    exact ⟨fun h => by omega, fun ⟨i, hi, hp⟩ => by rw [h2 i hi] at hp; cases hp⟩
  · rw [h2]
    exact ⟨fun _ => ⟨m, h1, h3⟩, fun _ => by omega⟩
theorem ex_take {α : Type} {d : α} {xs : List α} {i : Nat} {p : α → Bool} {q : α → Prop} (hi : i ≤ xs.length) (h : ∀ x, p x = true ↔ q x) : (∃ j, j < (xs.take i).length ∧ p ((xs.take i).getD j d) = true) ↔ ∃ j, j < i ∧ q (xs.getD j d) := by
  have e : (xs.take i).length = i := by rw [List.length_take]; omega
  rw [e]
  exact ⟨fun ⟨j, hj, hp⟩ => ⟨j, hj, by rw [getD_take hj] at hp; exact (h _).1 hp⟩, fun ⟨j, hj, hp⟩ => ⟨j, hj, by rw [getD_take hj]; exact (h _).2 hp⟩⟩
/-! leaves -/
theorem Tryz.confOf (a n : Int) (L : List HP) (h : I64c (a + n)) : Con Tryz.prog 163 [n64 a, n64 n] L (Is (spV a (a + n)) L) := by
  refine con_of Tryz.tysOk Tryz.func163 rfl rfl ?_
  conv => whnf
  repeat' (first
    | ((with_reducible refine Ar.i64 ?_ ?_); (focus omega); conv => whnf)
    | ((with_reducible refine Nd.mk ?_ ?_); (focus (first | omega | rfl | assumption | (simp; done))); conv => whnf)
    | ((with_reducible refine Nc.go' (fun _ => ?_)); conv => whnf)
    | (refine LdN.at 0 rfl (by first | exact Nat.le_of_ble_eq_true rfl | (simp; done)) ?_; conv => whnf)
    | (refine St.at 0 rfl (by first | exact Nat.le_of_ble_eq_true rfl | (simp; done)) rfl ?_; conv => whnf))
  all_goals (refine Is.ent ?_ ?_; (focus (refine FEnt.ent ?_; (repeat (first | exact FEnt.rfl | refine FEnt.drop ?_)); done)); (exact Is.rfl))
theorem Tryz.confShare (x y : Cli) (L : List HP) (hx : goodC x) (hy : goodC y) : Con Tryz.prog 115 [clV x, clV y] L (Is (.bool (decide (sameC x y))) L) := by
  obtain ⟨⟨x1, x2, x3, x4⟩, -, -, -, ⟨x5, x6, x7, x8⟩⟩ := hx
  obtain ⟨⟨y1, y2, y3, y4⟩, -, -, -, ⟨y5, y6, y7, y8⟩⟩ := hy
  have o1 := fun L => Tryz.confOf x.b x.z L ⟨by omega, by omega⟩
  have o2 := fun L => Tryz.confOf y.b y.z L ⟨by omega, by omega⟩
  have o3 := fun L => Tryz.confOf x.f x.s L ⟨by omega, by omega⟩
  have o4 := fun L => Tryz.confOf y.f y.s L ⟨by omega, by omega⟩
  refine con_of Tryz.tysOk Tryz.func115 rfl rfl ?_
  conv => whnf
  repeat' (first
    | (first | ((with_reducible refine Br.tt ?_); conv => whnf) | ((with_reducible refine Br.ff ?_); conv => whnf))
    | ((with_reducible refine Nd.mk ?_ ?_); (focus (first | omega | rfl | assumption | (simp; done))); conv => whnf)
    | ((with_reducible refine Nc.go' (fun _ => ?_)); conv => whnf)
    | (first | (refine Ld.at 0 rfl rfl ?_; conv => whnf) | (refine Ld.at 1 rfl rfl ?_; conv => whnf) | (refine Ld.at 2 rfl rfl ?_; conv => whnf) | (refine Ld.at 3 rfl rfl ?_; conv => whnf))
    | (refine St.at 0 rfl (by first | exact Nat.le_of_ble_eq_true rfl | (simp; done)) rfl ?_; conv => whnf)
    | ((with_reducible refine Dr.by (id := 1) Tryz.tysOk rfl [(0, 0), (2, 0), (5, 0), (7, 0), (1, 1), (3, 1), (4, 1), (6, 1), (8, 1), (9, 1), (10, 1), (11, 0), (12, 0), (13, 0), (14, 2), (15, 3), (16, 0)] ?_ ?_); (focus kernel_rfl); conv => whnf)
    | ((with_reducible refine Dr.by (id := 2) Tryz.tysOk rfl [(0, 0), (2, 0), (5, 0), (7, 0), (1, 1), (3, 1), (4, 1), (6, 1), (8, 1), (9, 1), (10, 1), (11, 0), (12, 0), (13, 0), (14, 2), (15, 3), (16, 0)] ?_ ?_); (focus kernel_rfl); conv => whnf)
    | (first | ((with_reducible refine CD.is (fun M => o1 _) ?_); conv => whnf) | ((with_reducible refine CD.is (fun M => o2 _) ?_); conv => whnf) | ((with_reducible refine CD.is (fun M => o3 _) ?_); conv => whnf) | ((with_reducible refine CD.is (fun M => o4 _) ?_); conv => whnf) | ((with_reducible refine CD.is (fun M => Tryz.spanMeet _ _ _ _ _) ?_); conv => whnf))
    | ((with_reducible refine Br.ds (fun _ => ?_) (fun _ => ?_) ) <;> (conv => whnf)))
  all_goals (refine Is.ent ?_ ?_; (focus (refine FEnt.ent ?_; (repeat (first | exact FEnt.rfl | refine FEnt.drop ?_)); done)); (first | exact Is.tt (by omega) | (refine Is.dec ?_; omega)))
theorem Tryz.confWindow (C : Cfg) (o f t : Int) (L : List HP) : Con Tryz.prog 103 [cfV C, slV o f t] L (Is (.bool (decide (goodWf C o f t))) L) := by
  refine con_of Tryz.tysOk Tryz.func103 rfl rfl ?_
  conv => whnf
  repeat' (first
    | (first | ((with_reducible refine Br.tt ?_); conv => whnf) | ((with_reducible refine Br.ff ?_); conv => whnf))
    | ((with_reducible refine Nc.go' (fun _ => ?_)); conv => whnf)
    | (first | (refine Ld.at 0 rfl rfl ?_; conv => whnf) | (refine Ld.at 1 rfl rfl ?_; conv => whnf))
    | (first | ((with_reducible refine Cl.is (Tryz.confIn _ _ _ _) ?_); conv => whnf) | ((with_reducible refine Cl.is (Tryz.spanIn _ _ _ _) ?_); conv => whnf))
    | ((with_reducible refine Br.ds (fun _ => ?_) (fun _ => ?_) ) <;> (conv => whnf)))
  all_goals (refine Is.ent ?_ ?_; (focus (refine FEnt.ent ?_; (repeat (first | exact FEnt.rfl | refine FEnt.drop ?_)); done)); (first | exact Is.ff (by omega) | (refine Is.dec ?_; omega)))
theorem Tryz.confSlot (C : Cfg) (o f t : Int) (L : List HP) (hF : C.F ≤ 9223372036854775807) : Con Tryz.prog 97 [cfV C, slV o f t] L (Is (.bool (decide (goodSf C o f t))) L) := by
  refine con_of Tryz.tysOk Tryz.func97 rfl rfl ?_
  conv => whnf
  repeat' (first
    | (first | ((with_reducible refine Br.tt ?_); conv => whnf) | ((with_reducible refine Br.ff ?_); conv => whnf))
    | ((with_reducible refine Ar.i64 ?_ ?_); (focus omega); conv => whnf)
    | ((with_reducible refine Nc.go' (fun _ => ?_)); conv => whnf)
    | (first | (refine Ld.at 0 rfl rfl ?_; conv => whnf) | (refine Ld.at 1 rfl rfl ?_; conv => whnf))
    | (first | ((with_reducible refine Cl.is (Tryz.confIn _ _ _ _) ?_); conv => whnf) | ((with_reducible refine Cl.is (Tryz.spanIn _ _ _ _) ?_); conv => whnf))
    | ((with_reducible refine Br.ds (fun _ => ?_) (fun _ => ?_) ) <;> (conv => whnf)))
  all_goals (refine Is.ent ?_ ?_; (focus (refine FEnt.ent ?_; (repeat (first | exact FEnt.rfl | refine FEnt.drop ?_)); done)); (first | exact Is.ff (by omega) | (refine Is.dec ?_; omega)))
theorem Tryz.refBadW (C : Cfg) (o f t : Int) (L : List HP) : Con Tryz.prog 44 [cfV C, slV o f t] L (Is (.bool (decide (¬ goodWf C o f t))) L) := by
  refine con_of Tryz.tysOk Tryz.func44 rfl rfl ?_
  conv => whnf
  repeat' (first
    | (first | ((with_reducible refine Br.tt ?_); conv => whnf) | ((with_reducible refine Br.ff ?_); conv => whnf))
    | ((with_reducible refine Nc.go' (fun _ => ?_)); conv => whnf)
    | (first | (refine Ld.at 0 rfl rfl ?_; conv => whnf) | (refine Ld.at 1 rfl rfl ?_; conv => whnf))
    | ((with_reducible refine Br.ds (fun _ => ?_) (fun _ => ?_) ) <;> (conv => whnf)))
  all_goals (refine Is.ent ?_ ?_; (focus (refine FEnt.ent ?_; (repeat (first | exact FEnt.rfl | refine FEnt.drop ?_)); done)); (first | exact Is.tt (by omega) | (refine Is.dec ?_; omega)))
theorem Tryz.refBadS (C : Cfg) (o f t : Int) (L : List HP) (hF : C.F ≤ 9223372036854775807) : Con Tryz.prog 46 [cfV C, slV o f t] L (Is (.bool (decide (¬ goodSf C o f t))) L) := by
  refine con_of Tryz.tysOk Tryz.func46 rfl rfl ?_
  conv => whnf
  repeat' (first
    | (first | ((with_reducible refine Br.tt ?_); conv => whnf) | ((with_reducible refine Br.ff ?_); conv => whnf))
    | ((with_reducible refine Ar.i64 ?_ ?_); (focus omega); conv => whnf)
    | ((with_reducible refine Nc.go' (fun _ => ?_)); conv => whnf)
    | (first | (refine Ld.at 0 rfl rfl ?_; conv => whnf) | (refine Ld.at 1 rfl rfl ?_; conv => whnf))
    | ((with_reducible refine Br.ds (fun _ => ?_) (fun _ => ?_) ) <;> (conv => whnf)))
  all_goals (refine Is.ent ?_ ?_; (focus (refine FEnt.ent ?_; (repeat (first | exact FEnt.rfl | refine FEnt.drop ?_)); done)); (first | exact Is.tt (by omega) | (refine Is.dec ?_; omega)))
theorem Tryz.refMeet (a n b m : Int) (L : List HP) (h : I64c (a + n)) (h' : I64c (b + m)) : Con Tryz.prog 43 [n64 a, n64 n, n64 b, n64 m] L (Is (.bool (decide (meetS a (a + n) b (b + m)))) L) := by
  refine con_of Tryz.tysOk Tryz.func43 rfl rfl ?_
  conv => whnf
  repeat' (first
    | ((with_reducible refine Ar.i64 ?_ ?_); (focus omega); conv => whnf)
    | ((with_reducible refine Cl.is (Tryz.refMeets _ _ _ _ _) ?_); conv => whnf))
  all_goals (refine Is.ent ?_ ?_; (focus (exact Ent.rfl)); (exact Is.rfl))
theorem Tryz.confUnits (C : Cfg) (o : Int) (L : List HP) (hF : C.F ≤ 9223372036854775807) (hr : Rd slE L C.sa C.ss) : Con Tryz.prog 60 [cfV C, n64 o] L (Is (n64 (unF C o)) L) := by
  unfold unF
  by_cases hf : frF C
  · rw [if_pos hf]
    refine con_of Tryz.tysOk Tryz.func60 rfl rfl ?_
    conv => whnf
    repeat' (first
      | ((with_reducible refine Br.tt ?_); conv => whnf)
      | ((with_reducible refine Nc.go' (fun _ => ?_)); conv => whnf)
      | (refine Ld.at 0 rfl rfl ?_; conv => whnf)
      | (refine LdN.at 0 rfl (by first | exact Nat.le_of_ble_eq_true rfl | (simp; done)) ?_; conv => whnf)
      | ((with_reducible refine Cl.is (Con.dt hf (Tryz.confFrame _ _)) ?_); conv => whnf))
    rename_i b2
    conv => whnf
    refine Lp.by2 Tryz.tysOk [13, 5] (fun (k : Nat) (u : Int) => [.int .i64 k, n64 u]) (fun k u => ptc b2 28 (cfC C) :: L) (fun k u => k ≤ C.ss.length ∧ u = unN C o k) (fun k u => C.ss.length - k) (0) (0) (by kernel_rfl) (by (exact Ent.rfl)) (⟨by omega, by simp [unN]⟩) ?_
    rintro k u ⟨h1, h2⟩
    conv => whnf
    repeat (intro _; conv => whnf)
    by_cases hk : k < C.ss.length
    · have hs := unN_succ (o := o) hk
      have hb := unN_bd (o := o) hf k (by omega)
      have hss : k ≤ 32 := by omega
      rw [← h2] at hs hb
      by_cases hg : goodS C (cS C k)
      · have e4 := tdq (x := (cS C k).2.2 - (cS C k).2.1) (by have := hg.2; omega)
        have hg2 : 0 ≤ (cS C k).2.1 ∧ (cS C k).2.1 < (cS C k).2.2 ∧ (cS C k).2.2 ≤ C.F := ⟨hg.2.1.1.1, hg.2.1.1.2, hg.2.1.2⟩
        by_cases ho : (cS C k).1 = o
        · rw [if_pos ⟨ho, hg⟩, ← e4] at hs
          have hq : 0 ≤ ((cS C k).2.2 - (cS C k).2.1).tdiv 4 ∧ ((cS C k).2.2 - (cS C k).2.1).tdiv 4 ≤ 4096 := by rw [e4]; omega
          simp only [cS] at hs hg hg2 hq e4 ho
          conv => whnf
          repeat' (first
            | (first | ((with_reducible refine Br.tt ?_); conv => whnf) | ((with_reducible refine Br.dt ?_ ?_); (focus (first | assumption | omega)); conv => whnf))
            | ((with_reducible refine Ar.i64 ?_ ?_); (focus omega); conv => whnf)
            | ((with_reducible refine Nd.mk ?_ ?_); (focus (first | omega | rfl | assumption | (simp; done))); conv => whnf)
            | ((with_reducible refine Nc.go' (fun _ => ?_)); conv => whnf)
            | ((with_reducible refine Ix.ad ?_ ?_ ?_); (focus (exact Rd.ad (by assumption))); (focus (omega)); conv => whnf)
            | (refine Ld.at 0 rfl rfl ?_; conv => whnf)
            | (first | ((with_reducible apply LdN.rdk); (focus ((repeat (first | assumption | apply Rd.cons)); done)); (focus rfl); (focus rfl); (focus (omega)); conv => whnf) | (refine LdN.at 0 rfl (by first | exact Nat.le_of_ble_eq_true rfl | (simp; done)) ?_; conv => whnf) | (refine LdN.at 1 rfl (by first | exact Nat.le_of_ble_eq_true rfl | (simp; done)) ?_; conv => whnf))
            | (refine St.at 0 rfl (by first | exact Nat.le_of_ble_eq_true rfl | (simp; done)) rfl ?_; conv => whnf)
            | ((with_reducible refine Cl.is (Con.dt hg (Tryz.confSlot _ _ _ _ _ hF)) ?_); conv => whnf))
          all_goals first | omega | exact ⟨k + 1, u + ((cS C k).2.2 - (cS C k).2.1).tdiv 4, by kernel_rfl, by (refine FEnt.ent ?_; (repeat (first | exact FEnt.rfl | (refine FEnt.at 1 rfl ?_; (try simp only [List.eraseIdx_cons_zero, List.eraseIdx_cons_succ, List.eraseIdx_zero, List.tail_cons])) | refine FEnt.drop ?_)); done), ⟨by omega, hs.symm⟩, by omega⟩
        · rw [if_neg (fun h => ho h.1), Int.add_zero] at hs
          conv => whnf
          repeat' (first
            | (first | ((with_reducible refine Br.ff ?_); conv => whnf) | ((with_reducible refine Br.dt ?_ ?_); (focus (first | assumption | omega)); conv => whnf) | ((with_reducible refine Br.df ?_ ?_); (focus (first | assumption | omega)); conv => whnf))
            | ((with_reducible refine Ar.i64 ?_ ?_); (focus omega); conv => whnf)
            | ((with_reducible refine Nd.mk ?_ ?_); (focus (first | omega | rfl | assumption | (simp; done))); conv => whnf)
            | ((with_reducible refine Nc.go' (fun _ => ?_)); conv => whnf)
            | ((with_reducible refine Ix.ad ?_ ?_ ?_); (focus (exact Rd.ad (by assumption))); (focus (omega)); conv => whnf)
            | (refine Ld.at 0 rfl rfl ?_; conv => whnf)
            | ((with_reducible apply LdN.rdk); (focus ((repeat (first | assumption | apply Rd.cons)); done)); (focus rfl); (focus rfl); (focus (omega)); conv => whnf)
            | (refine St.at 0 rfl (by first | exact Nat.le_of_ble_eq_true rfl | (simp; done)) rfl ?_; conv => whnf))
          all_goals exact ⟨k + 1, u, by kernel_rfl, by (refine FEnt.ent ?_; (repeat (first | exact FEnt.rfl | (refine FEnt.at 1 rfl ?_; (try simp only [List.eraseIdx_cons_zero, List.eraseIdx_cons_succ, List.eraseIdx_zero, List.tail_cons])) | refine FEnt.drop ?_)); done), ⟨by omega, hs.symm⟩, by omega⟩
      · rw [if_neg (fun h => hg h.2), Int.add_zero] at hs
        by_cases ho : (cS C k).1 = o
        · conv => whnf
          repeat' (first
            | (first | ((with_reducible refine Br.tt ?_); conv => whnf) | ((with_reducible refine Br.ff ?_); conv => whnf) | ((with_reducible refine Br.dt ?_ ?_); (focus (first | assumption | omega)); conv => whnf))
            | ((with_reducible refine Ar.i64 ?_ ?_); (focus omega); conv => whnf)
            | ((with_reducible refine Nd.mk ?_ ?_); (focus (first | omega | rfl | assumption | (simp; done))); conv => whnf)
            | ((with_reducible refine Nc.go' (fun _ => ?_)); conv => whnf)
            | ((with_reducible refine Ix.ad ?_ ?_ ?_); (focus (exact Rd.ad (by assumption))); (focus (omega)); conv => whnf)
            | (refine Ld.at 0 rfl rfl ?_; conv => whnf)
            | (first | ((with_reducible apply LdN.rdk); (focus ((repeat (first | assumption | apply Rd.cons)); done)); (focus rfl); (focus rfl); (focus (omega)); conv => whnf) | (refine LdN.at 0 rfl (by first | exact Nat.le_of_ble_eq_true rfl | (simp; done)) ?_; conv => whnf) | (refine LdN.at 1 rfl (by first | exact Nat.le_of_ble_eq_true rfl | (simp; done)) ?_; conv => whnf))
            | (refine St.at 0 rfl (by first | exact Nat.le_of_ble_eq_true rfl | (simp; done)) rfl ?_; conv => whnf)
            | ((with_reducible refine Cl.is (Con.df hg (Tryz.confSlot _ _ _ _ _ hF)) ?_); conv => whnf))
          all_goals exact ⟨k + 1, u, by kernel_rfl, by (refine FEnt.ent ?_; (repeat (first | exact FEnt.rfl | (refine FEnt.at 1 rfl ?_; (try simp only [List.eraseIdx_cons_zero, List.eraseIdx_cons_succ, List.eraseIdx_zero, List.tail_cons])) | refine FEnt.drop ?_)); done), ⟨by omega, hs.symm⟩, by omega⟩
        · conv => whnf
          repeat' (first
            | (first | ((with_reducible refine Br.ff ?_); conv => whnf) | ((with_reducible refine Br.dt ?_ ?_); (focus (first | assumption | omega)); conv => whnf) | ((with_reducible refine Br.df ?_ ?_); (focus (first | assumption | omega)); conv => whnf))
            | ((with_reducible refine Ar.i64 ?_ ?_); (focus omega); conv => whnf)
            | ((with_reducible refine Nd.mk ?_ ?_); (focus (first | omega | rfl | assumption | (simp; done))); conv => whnf)
            | ((with_reducible refine Nc.go' (fun _ => ?_)); conv => whnf)
            | ((with_reducible refine Ix.ad ?_ ?_ ?_); (focus (exact Rd.ad (by assumption))); (focus (omega)); conv => whnf)
            | (refine Ld.at 0 rfl rfl ?_; conv => whnf)
            | ((with_reducible apply LdN.rdk); (focus ((repeat (first | assumption | apply Rd.cons)); done)); (focus rfl); (focus rfl); (focus (omega)); conv => whnf)
            | (refine St.at 0 rfl (by first | exact Nat.le_of_ble_eq_true rfl | (simp; done)) rfl ?_; conv => whnf))
          all_goals exact ⟨k + 1, u, by kernel_rfl, by (refine FEnt.ent ?_; (repeat (first | exact FEnt.rfl | (refine FEnt.at 1 rfl ?_; (try simp only [List.eraseIdx_cons_zero, List.eraseIdx_cons_succ, List.eraseIdx_zero, List.tail_cons])) | refine FEnt.drop ?_)); done), ⟨by omega, hs.symm⟩, by omega⟩
    · have e : k = C.ss.length := by omega
      subst e
      rw [← h2]
      conv => whnf
      repeat' ((with_reducible refine Br.df ?_ ?_); (focus (first | assumption | omega)); conv => whnf)
      all_goals (refine Is.ent ?_ ?_; (focus (refine FEnt.ent ?_; (repeat (first | exact FEnt.rfl | refine FEnt.drop ?_)); done)); (exact Is.rfl))
  · rw [if_neg hf]
    refine con_of Tryz.tysOk Tryz.func60 rfl rfl ?_
    conv => whnf
    repeat' (first
      | ((with_reducible refine Br.ff ?_); conv => whnf)
      | ((with_reducible refine Nc.go' (fun _ => ?_)); conv => whnf)
      | (refine LdN.at 0 rfl (by first | exact Nat.le_of_ble_eq_true rfl | (simp; done)) ?_; conv => whnf)
      | ((with_reducible refine Cl.is (Con.df hf (Tryz.confFrame _ _)) ?_); conv => whnf))
    all_goals (refine Is.ent ?_ ?_; (focus (refine FEnt.ent ?_; (repeat (first | exact FEnt.rfl | refine FEnt.drop ?_)); done)); (exact Is.rfl))
theorem Tryz.refUnits (C : Cfg) (o : Int) (L : List HP) (hF : C.F ≤ 9223372036854775807) (hl : C.ss.length ≤ 9223372036854775807) (hr : Rd slE L C.sa C.ss) : Con Tryz.prog 47 [cfV C, n64 o] L (Is (n64 (unF C o)) L) := by
  unfold unF
  by_cases hf : frF C
  · rw [if_pos hf]
    refine con_of Tryz.tysOk Tryz.func47 rfl rfl ?_
    conv => whnf
    repeat' ((with_reducible refine Nc.go' (fun _ => ?_)); conv => whnf)
    rename_i b2
    conv => whnf
    refine Lp.by2 Tryz.tysOk [6, 5] (fun (k : Nat) (u : Int) => [.int .i64 k, n64 u]) (fun k u => ptc b2 28 (cfC C) :: L) (fun k u => k ≤ C.ss.length ∧ u = unN C o k) (fun k u => C.ss.length - k) (0) (0) (by kernel_rfl) (by (exact Ent.rfl)) (⟨by omega, by simp [unN]⟩) ?_
    rintro k u ⟨h1, h2⟩
    conv => whnf
    repeat (intro _; conv => whnf)
    by_cases hk : k < C.ss.length
    · have hs := unN_succ (o := o) hk
      have hb := unN_bd (o := o) hf k (by omega)
      have hss : k ≤ 32 := by omega
      rw [← h2] at hs hb
      by_cases hg : goodS C (cS C k)
      · have e4 := tdq (x := (cS C k).2.2 - (cS C k).2.1) (by have := hg.2; omega)
        have hg2 : 0 ≤ (cS C k).2.1 ∧ (cS C k).2.1 < (cS C k).2.2 ∧ (cS C k).2.2 ≤ C.F := ⟨hg.2.1.1.1, hg.2.1.1.2, hg.2.1.2⟩
        have hng : ¬ ¬ goodS C (cS C k) := fun h => h hg
        by_cases ho : (cS C k).1 = o
        · rw [if_pos ⟨ho, hg⟩, ← e4] at hs
          have hq : 0 ≤ ((cS C k).2.2 - (cS C k).2.1).tdiv 4 ∧ ((cS C k).2.2 - (cS C k).2.1).tdiv 4 ≤ 4096 := by rw [e4]; omega
          simp only [cS] at hs hg hg2 hq e4 ho
          conv => whnf
          repeat' (first
            | (first | ((with_reducible refine Br.tt ?_); conv => whnf) | ((with_reducible refine Br.nf ?_); conv => whnf) | ((with_reducible refine Br.dt ?_ ?_); (focus (first | assumption | omega)); conv => whnf))
            | ((with_reducible refine Ar.i64 ?_ ?_); (focus omega); conv => whnf)
            | ((with_reducible refine Nd.mk ?_ ?_); (focus (first | omega | rfl | assumption | (simp; done))); conv => whnf)
            | ((with_reducible refine Ix.ad ?_ ?_ ?_); (focus (exact Rd.ad (by assumption))); (focus (omega)); conv => whnf)
            | (first | ((first | (with_reducible apply Ld.rdk) | (with_reducible apply Ld.rdk0)); (focus ((repeat (first | assumption | apply Rd.cons)); done)); (focus rfl); (focus (omega)); (focus rfl); conv => whnf) | (refine Ld.at 0 rfl rfl ?_; conv => whnf))
            | (first | ((with_reducible apply LdN.rdk); (focus ((repeat (first | assumption | apply Rd.cons)); done)); (focus rfl); (focus rfl); (focus (omega)); conv => whnf) | (refine LdN.at 0 rfl (by first | exact Nat.le_of_ble_eq_true rfl | (simp; done)) ?_; conv => whnf))
            | ((with_reducible refine Dr.by (id := 5) Tryz.tysOk rfl [(0, 0), (2, 0), (6, 0), (1, 1), (3, 0), (4, 0), (5, 1), (7, 0), (8, 0), (10, 0), (12, 0), (9, 1), (11, 1), (13, 0), (14, 1), (15, 1), (16, 0), (17, 0)] ?_ ?_); (focus kernel_rfl); conv => whnf)
            | ((with_reducible refine Dr.by (id := 6) Tryz.tysOk rfl [(0, 0), (1, 0), (3, 0), (7, 0), (9, 0), (2, 1), (4, 0), (5, 0), (6, 1), (8, 1), (10, 0), (11, 0), (12, 1), (13, 0), (14, 0), (15, 0), (16, 0)] ?_ ?_); (focus kernel_rfl); conv => whnf)
            | ((with_reducible refine CD.is (fun M => Con.df hng (Tryz.refBadS _ _ _ _ _ hF)) ?_); conv => whnf)
            | ((with_reducible refine Cl.is (Con.dt hf (Tryz.refFrame _ _)) ?_); conv => whnf))
          all_goals first | omega | exact ⟨k + 1, u + ((cS C k).2.2 - (cS C k).2.1).tdiv 4, by kernel_rfl, by (exact Ent.rfl), ⟨by omega, hs.symm⟩, by omega⟩
        · rw [if_neg (fun h => ho h.1), Int.add_zero] at hs
          conv => whnf
          repeat' (first
            | (first | ((with_reducible refine Br.tt ?_); conv => whnf) | ((with_reducible refine Br.ff ?_); conv => whnf) | ((with_reducible refine Br.dt ?_ ?_); (focus (first | assumption | omega)); conv => whnf) | ((with_reducible refine Br.df ?_ ?_); (focus (first | assumption | omega)); conv => whnf))
            | ((with_reducible refine Ar.i64 ?_ ?_); (focus omega); conv => whnf)
            | ((with_reducible refine Ix.ad ?_ ?_ ?_); (focus (exact Rd.ad (by assumption))); (focus (omega)); conv => whnf)
            | (first | ((with_reducible apply Ld.rdk0); (focus ((repeat (first | assumption | apply Rd.cons)); done)); (focus rfl); (focus (omega)); (focus rfl); conv => whnf) | (refine Ld.at 0 rfl rfl ?_; conv => whnf))
            | (refine LdN.at 0 rfl (by first | exact Nat.le_of_ble_eq_true rfl | (simp; done)) ?_; conv => whnf)
            | ((with_reducible refine Dr.by (id := 5) Tryz.tysOk rfl [(0, 0), (2, 0), (6, 0), (1, 1), (3, 0), (4, 0), (5, 1), (7, 0), (8, 0), (10, 0), (12, 0), (9, 1), (11, 1), (13, 0), (14, 1), (15, 1), (16, 0), (17, 0)] ?_ ?_); (focus kernel_rfl); conv => whnf)
            | ((with_reducible refine Cl.is (Con.dt hf (Tryz.refFrame _ _)) ?_); conv => whnf))
          all_goals exact ⟨k + 1, u, by kernel_rfl, by (exact Ent.rfl), ⟨by omega, hs.symm⟩, by omega⟩
      · rw [if_neg (fun h => hg h.2), Int.add_zero] at hs
        by_cases ho : (cS C k).1 = o
        · conv => whnf
          repeat' (first
            | (first | ((with_reducible refine Br.tt ?_); conv => whnf) | ((with_reducible refine Br.nt ?_); conv => whnf) | ((with_reducible refine Br.dt ?_ ?_); (focus (first | assumption | omega)); conv => whnf))
            | ((with_reducible refine Ar.i64 ?_ ?_); (focus omega); conv => whnf)
            | ((with_reducible refine Ix.ad ?_ ?_ ?_); (focus (exact Rd.ad (by assumption))); (focus (omega)); conv => whnf)
            | (first | ((with_reducible apply Ld.rdk0); (focus ((repeat (first | assumption | apply Rd.cons)); done)); (focus rfl); (focus (omega)); (focus rfl); conv => whnf) | (refine Ld.at 0 rfl rfl ?_; conv => whnf))
            | (first | ((with_reducible apply LdN.rdk); (focus ((repeat (first | assumption | apply Rd.cons)); done)); (focus rfl); (focus rfl); (focus (omega)); conv => whnf) | (refine LdN.at 0 rfl (by first | exact Nat.le_of_ble_eq_true rfl | (simp; done)) ?_; conv => whnf))
            | ((with_reducible refine Dr.by (id := 5) Tryz.tysOk rfl [(0, 0), (2, 0), (6, 0), (1, 1), (3, 0), (4, 0), (5, 1), (7, 0), (8, 0), (10, 0), (12, 0), (9, 1), (11, 1), (13, 0), (14, 1), (15, 1), (16, 0), (17, 0)] ?_ ?_); (focus kernel_rfl); conv => whnf)
            | ((with_reducible refine CD.is (fun M => Con.dt hg (Tryz.refBadS _ _ _ _ _ hF)) ?_); conv => whnf)
            | ((with_reducible refine Cl.is (Con.dt hf (Tryz.refFrame _ _)) ?_); conv => whnf))
          all_goals exact ⟨k + 1, u, by kernel_rfl, by (exact Ent.rfl), ⟨by omega, hs.symm⟩, by omega⟩
        · conv => whnf
          repeat' (first
            | (first | ((with_reducible refine Br.tt ?_); conv => whnf) | ((with_reducible refine Br.ff ?_); conv => whnf) | ((with_reducible refine Br.dt ?_ ?_); (focus (first | assumption | omega)); conv => whnf) | ((with_reducible refine Br.df ?_ ?_); (focus (first | assumption | omega)); conv => whnf))
            | ((with_reducible refine Ar.i64 ?_ ?_); (focus omega); conv => whnf)
            | ((with_reducible refine Ix.ad ?_ ?_ ?_); (focus (exact Rd.ad (by assumption))); (focus (omega)); conv => whnf)
            | (first | ((with_reducible apply Ld.rdk0); (focus ((repeat (first | assumption | apply Rd.cons)); done)); (focus rfl); (focus (omega)); (focus rfl); conv => whnf) | (refine Ld.at 0 rfl rfl ?_; conv => whnf))
            | (refine LdN.at 0 rfl (by first | exact Nat.le_of_ble_eq_true rfl | (simp; done)) ?_; conv => whnf)
            | ((with_reducible refine Dr.by (id := 5) Tryz.tysOk rfl [(0, 0), (2, 0), (6, 0), (1, 1), (3, 0), (4, 0), (5, 1), (7, 0), (8, 0), (10, 0), (12, 0), (9, 1), (11, 1), (13, 0), (14, 1), (15, 1), (16, 0), (17, 0)] ?_ ?_); (focus kernel_rfl); conv => whnf)
            | ((with_reducible refine Cl.is (Con.dt hf (Tryz.refFrame _ _)) ?_); conv => whnf))
          all_goals exact ⟨k + 1, u, by kernel_rfl, by (exact Ent.rfl), ⟨by omega, hs.symm⟩, by omega⟩
    · have e : k = C.ss.length := by omega
      subst e
      rw [← h2]
      conv => whnf
      repeat' (first
        | (first | ((with_reducible refine Br.ff ?_); conv => whnf) | ((with_reducible refine Br.df ?_ ?_); (focus (first | assumption | omega)); conv => whnf))
        | (refine Ld.at 0 rfl rfl ?_; conv => whnf))
      all_goals (refine Is.ent ?_ ?_; (focus (refine FEnt.ent ?_; (repeat (first | exact FEnt.rfl | refine FEnt.drop ?_)); done)); (exact Is.rfl))
  · rw [if_neg hf]
    refine con_of Tryz.tysOk Tryz.func47 rfl rfl ?_
    conv => whnf
    repeat' ((with_reducible refine Nc.go' (fun _ => ?_)); conv => whnf)
    rename_i b2
    conv => whnf
    refine Lp.by Tryz.tysOk [6, 5] (fun (k : Nat) => [.int .i64 k, n64 0]) (fun k => ptc b2 28 (cfC C) :: L) (fun k => k = 0) (fun k => 0) (0) (by kernel_rfl) (by (exact Ent.rfl)) (rfl) ?_
    rintro k h1
    conv => whnf
    repeat (intro _; conv => whnf)
    subst h1
    conv => whnf
    repeat' (first
      | (first | ((with_reducible refine Br.tt ?_); conv => whnf) | ((with_reducible refine Br.ff ?_); conv => whnf))
      | (refine Ld.at 0 rfl rfl ?_; conv => whnf)
      | (refine LdN.at 0 rfl (by first | exact Nat.le_of_ble_eq_true rfl | (simp; done)) ?_; conv => whnf)
      | ((with_reducible refine Cl.is (Con.df hf (Tryz.refFrame _ _)) ?_); conv => whnf)
      | ((with_reducible refine Br.ds (fun _ => ?_) (fun _ => ?_) ) <;> (conv => whnf)))
    all_goals (refine Is.ent ?_ ?_; (focus (refine FEnt.ent ?_; (repeat (first | exact FEnt.rfl | refine FEnt.drop ?_)); done)); (exact Is.rfl))
end Go.Proofs
