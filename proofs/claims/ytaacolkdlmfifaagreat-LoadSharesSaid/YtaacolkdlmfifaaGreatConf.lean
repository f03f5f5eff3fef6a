/- A machine's tables: what may be wrong, row by row: contracts. -/
import Derived.Test.YtaacolkdlmfifaaGreatSlot
set_option linter.all false
namespace Go.Proofs
open Go.Eng
open Classical
set_option linter.unusedVariables false
set_option maxRecDepth 100000
set_option maxHeartbeats 1000000
/-- a client's row -/
structure Cli where
  b : Int
  z : Int
  r : Int
  t : Int
  q : Int
  u : Int
  m : Int
  h : Int
  f : Int
  s : Int
def clE : Enc Cli := ⟨10, fun x => [n64 x.b, n64 x.z, n64 x.r, n64 x.t, n64 x.q, n64 x.u, n64 x.m, n64 x.h, n64 x.f, n64 x.s], ⟨0, 0, 0, 0, 0, 0, 0, 0, 0, 0⟩, fun _ => rfl, by omega, fun _ => rfl⟩
abbrev clC (x : Cli) : List Value := [n64 x.b, n64 x.z, n64 x.r, n64 x.t, n64 x.q, n64 x.u, n64 x.m, n64 x.h, n64 x.f, n64 x.s]
abbrev clV (x : Cli) : Value := .agg #[n64 x.b, n64 x.z, n64 x.r, n64 x.t, n64 x.q, n64 x.u, n64 x.m, n64 x.h, n64 x.f, n64 x.s]
/-- tables: a frame, windows, slots, clients -/
structure Cfg where
  F : Int
  wa : Option Addr
  wc : Nat
  ws : List Slt
  sa : Option Addr
  sc : Nat
  ss : List Slt
  ca : Option Addr
  cc : Nat
  xs : List Cli
abbrev cfC (C : Cfg) : List Value := [n64 C.F, .slice C.wa C.ws.length C.wc, .slice C.sa C.ss.length C.sc, .slice C.ca C.xs.length C.cc]
abbrev cfV (C : Cfg) : Value := .agg #[n64 C.F, .slice C.wa C.ws.length C.wc, .slice C.sa C.ss.length C.sc, .slice C.ca C.xs.length C.cc]
abbrev I64 (n : Int) : Prop := -9223372036854775808 ≤ n ∧ n ≤ 9223372036854775807
structure ClB (x : Cli) : Prop where
  b : I64 x.b
  z : I64 x.z
  r : I64 x.r
  t : I64 x.t
  q : I64 x.q
  u : I64 x.u
  m : I64 x.m
  h : I64 x.h
  f : I64 x.f
  s : I64 x.s
structure CfB (C : Cfg) : Prop where
  F : I64 C.F
  w : ∀ x ∈ C.ws, slB x
  s : ∀ x ∈ C.ss, slB x
  c : ∀ x ∈ C.xs, ClB x
  wc : C.ws.length ≤ C.wc
  sc : C.ss.length ≤ C.sc
  cc : C.xs.length ≤ C.cc
abbrev cX (C : Cfg) (i : Nat) : Cli := C.xs.getD i clE.d
abbrev cW (C : Cfg) (i : Nat) : Slt := C.ws.getD i slE.d
abbrev cS (C : Cfg) (i : Nat) : Slt := C.ss.getD i slE.d
abbrev frF (C : Cfg) : Prop := 1 ≤ C.F ∧ C.F ≤ 4096 ∧ 1 ≤ C.xs.length ∧ C.xs.length ≤ 8 ∧ C.ws.length ≤ 9 ∧ C.ss.length ≤ 32
abbrev ringK (n : Int) : Prop := n = 1 ∨ n = 2 ∨ n = 4 ∨ n = 8 ∨ n = 16
def ringN (n : Int) : Int := if ringK n then 2 + 8 * n else 0
theorem ringN_bd (n : Int) : 0 ≤ ringN n ∧ ringN n ≤ 130 := by
  unfold ringN
  split <;> omega
abbrev goodP (x : Cli) (R : Int) : Prop := (32 ≤ x.z ∧ x.z ≤ 1024 ∧ 128 ≤ x.b ∧ x.b ≤ 16384 - x.z) ∧ (¬ R = 0 ∧ 0 ≤ x.t ∧ x.t ≤ x.z - R) ∧ (1 ≤ x.q ∧ x.q ≤ 16 ∧ 0 ≤ x.u ∧ x.u ≤ 16) ∧ (0 ≤ x.m ∧ x.m ≤ 255 ∧ 0 ≤ x.h ∧ x.h ≤ 255) ∧ (0 ≤ x.s ∧ x.s ≤ 64 ∧ 0 ≤ x.f ∧ x.f ≤ 512 - x.s)
abbrev goodC (x : Cli) : Prop := goodP x (ringN x.r)
abbrev sameC (x y : Cli) : Prop := x.m = y.m ∨ x.h = y.h ∨ meetS x.b (x.b + x.z) y.b (y.b + y.z) ∨ meetS x.f (x.f + x.s) y.f (y.f + y.s)
abbrev goodWf (C : Cfg) (o f t : Int) : Prop := (0 ≤ o ∧ o ≤ C.xs.length) ∧ isS f t ∧ t ≤ C.F
abbrev goodSf (C : Cfg) (o f t : Int) : Prop := (1 ≤ o ∧ o ≤ C.xs.length) ∧ (isS f t ∧ t ≤ C.F) ∧ 4 ≤ t - f
abbrev goodW (C : Cfg) (w : Slt) : Prop := goodWf C w.1 w.2.1 w.2.2
abbrev goodS (C : Cfg) (s : Slt) : Prop := goodSf C s.1 s.2.1 s.2.2
theorem tdq {x : Int} (h : 0 ≤ x) : x.tdiv 4 = x / 4 := Int.tdiv_eq_ediv_of_nonneg h
theorem Tryz.refFrame (C : Cfg) (L : List HP) : Con Tryz.prog 24 [cfV C] L (Is (.bool (decide (frF C))) L) := by
  refine con_of Tryz.tysOk Tryz.func24 rfl rfl ?_
  conv => whnf
  repeat' (first
    | (first | ((with_reducible refine Br.tt ?_); conv => whnf) | ((with_reducible refine Br.ff ?_); conv => whnf))
    | ((with_reducible refine Nc.go' (fun _ => ?_)); conv => whnf)
    | (refine Ld.at 0 rfl rfl ?_; conv => whnf)
    | ((with_reducible refine Br.ds (fun _ => ?_) (fun _ => ?_) ) <;> (conv => whnf)))
  all_goals (refine Is.ent ?_ ?_; (focus (refine FEnt.ent ?_; (repeat (first | exact FEnt.rfl | refine FEnt.drop ?_)); done)); (first | exact Is.ff (by omega) | (refine Is.dec ?_; omega)))
theorem Tryz.confIn (n a b : Int) (L : List HP) : Con Tryz.prog 57 [n64 n, n64 a, n64 b] L (Is (.bool (decide (a ≤ n ∧ n ≤ b))) L) := by
  refine con_of Tryz.tysOk Tryz.func57 rfl rfl ?_
  conv => whnf
  repeat' (first
    | (first | ((with_reducible refine Br.tt ?_); conv => whnf) | ((with_reducible refine Br.ff ?_); conv => whnf))
    | ((with_reducible refine Br.ds (fun _ => ?_) (fun _ => ?_) ) <;> (conv => whnf)))
  all_goals (refine Is.ent ?_ ?_; (focus (exact Ent.rfl)); (first | exact Is.ff (by omega) | (refine Is.dec ?_; omega)))
theorem Tryz.confFrame (C : Cfg) (L : List HP) : Con Tryz.prog 33 [cfV C] L (Is (.bool (decide (frF C))) L) := by
  refine con_of Tryz.tysOk Tryz.func33 rfl rfl ?_
  conv => whnf
  repeat' (first
    | (first | ((with_reducible refine Br.tt ?_); conv => whnf) | ((with_reducible refine Br.ff ?_); conv => whnf))
    | ((with_reducible refine Nc.go' (fun _ => ?_)); conv => whnf)
    | (refine Ld.at 0 rfl rfl ?_; conv => whnf)
    | ((with_reducible refine Cl.is (Tryz.confIn _ _ _ _) ?_); conv => whnf)
    | ((with_reducible refine Br.ds (fun _ => ?_) (fun _ => ?_) ) <;> (conv => whnf)))
  all_goals (refine Is.ent ?_ ?_; (focus (refine FEnt.ent ?_; (repeat (first | exact FEnt.rfl | refine FEnt.drop ?_)); done)); (first | exact Is.ff (by omega) | (refine Is.dec ?_; omega)))
theorem Tryz.refRing (n : Int) (L : List HP) : Con Tryz.prog 60 [n64 n] L (Is (n64 (ringN n)) L) := by
  unfold ringN
  by_cases h : ringK n
  · rw [if_pos h, Int.add_comm]
    refine con_of Tryz.tysOk Tryz.func60 rfl rfl ?_
    conv => whnf
    repeat' (first
      | (first | ((with_reducible refine Br.tt ?_); conv => whnf) | ((with_reducible refine Br.ff ?_); conv => whnf) | ((with_reducible refine Br.dt ?_ ?_); (focus (first | assumption | omega)); conv => whnf))
      | ((with_reducible refine Ar.i64 ?_ ?_); (focus omega); conv => whnf)
      | ((with_reducible refine Br.ds (fun _ => ?_) (fun _ => ?_) ) <;> (conv => whnf)))
    all_goals first | (refine Is.ent ?_ ?_; (focus (exact Ent.rfl)); (exact Is.rfl)) | (exfalso; omega)
  · rw [if_neg h]
    refine con_of Tryz.tysOk Tryz.func60 rfl rfl ?_
    conv => whnf
    repeat' (first | ((with_reducible refine Br.ff ?_); conv => whnf) | ((with_reducible refine Br.df ?_ ?_); (focus (first | assumption | omega)); conv => whnf))
    all_goals first | (refine Is.ent ?_ ?_; (focus (exact Ent.rfl)); (exact Is.rfl)) | (exfalso; omega)
theorem Tryz.confRing (n : Int) (L : List HP) : Con Tryz.prog 102 [n64 n] L (Is (n64 (ringN n)) L) := by
  unfold ringN
  by_cases h : ringK n
  · rw [if_pos h]
    refine con_of Tryz.tysOk Tryz.func102 rfl rfl ?_
    conv => whnf
    repeat' (first
      | ((with_reducible refine Br.dt ?_ ?_); (focus (first | assumption | omega)); conv => whnf)
      | ((with_reducible refine Ar.i64 ?_ ?_); (focus omega); conv => whnf)
      | ((with_reducible refine Br.ds (fun _ => ?_) (fun _ => ?_) ) <;> (conv => whnf)))
    all_goals first | (refine Is.ent ?_ ?_; (focus (exact Ent.rfl)); (exact Is.rfl)) | (exfalso; omega)
  · rw [if_neg h]
    refine con_of Tryz.tysOk Tryz.func102 rfl rfl ?_
    conv => whnf
    repeat' ((with_reducible refine Br.df ?_ ?_); (focus (first | assumption | omega)); conv => whnf)
    all_goals first | (refine Is.ent ?_ ?_; (focus (exact Ent.rfl)); (exact Is.rfl)) | (exfalso; omega)
theorem Tryz.refBad (x : Cli) (L : List HP) (hx : ClB x) : Con Tryz.prog 36 [clV x] L (Is (.bool (decide (¬ goodC x))) L) := by
  have hR := ringN_bd x.r
  have hrg := fun L => Tryz.refRing x.r L
  unfold goodC
  generalize ringN x.r = R at *
  obtain ⟨h1, h2, h3, h4, h5, h6, h7, h8, h9, h10⟩ := hx
  obtain ⟨b, z, r, t, q, u, m, h, f, s⟩ := x
  dsimp only at *
  refine con_of Tryz.tysOk Tryz.func36 rfl rfl ?_
  conv => whnf
  repeat' (first
    | (first | ((with_reducible refine Br.tt ?_); conv => whnf) | ((with_reducible refine Br.ff ?_); conv => whnf))
    | ((with_reducible refine Ar.i64 ?_ ?_); (focus omega); conv => whnf)
    | ((with_reducible refine Nc.go' (fun _ => ?_)); conv => whnf)
    | (refine Ld.at 0 rfl rfl ?_; conv => whnf)
    | ((with_reducible refine Dr.by (id := 3) Tryz.tysOk rfl [(0, 0), (1, 1), (2, 1), (3, 0), (4, 0), (5, 0), (6, 1), (7, 0), (8, 0), (9, 0), (10, 0), (12, 0), (14, 0), (11, 1), (13, 1), (15, 1), (16, 1), (17, 0), (18, 0), (19, 0)] ?_ ?_); (focus kernel_rfl); conv => whnf)
    | ((with_reducible refine CD.is (fun M => hrg _) ?_); conv => whnf)
    | ((with_reducible refine Br.ds (fun _ => ?_) (fun _ => ?_) ) <;> (conv => whnf)))
  all_goals (refine Is.ent ?_ ?_; (focus (refine FEnt.ent ?_; (repeat (first | exact FEnt.rfl | refine FEnt.drop ?_)); done)); (first | exact Is.tt (by omega) | (refine Is.dec ?_; omega)))
theorem Tryz.confClient (x : Cli) (L : List HP) (hx : ClB x) : Con Tryz.prog 87 [clV x] L (Is (.bool (decide (goodC x))) L) := by
  have hR := ringN_bd x.r
  have hrg := fun L => Tryz.confRing x.r L
  unfold goodC
  generalize ringN x.r = R at *
  obtain ⟨h1, h2, h3, h4, h5, h6, h7, h8, h9, h10⟩ := hx
  obtain ⟨b, z, r, t, q, u, m, h, f, s⟩ := x
  dsimp only at *
  refine con_of Tryz.tysOk Tryz.func87 rfl rfl ?_
  conv => whnf
  repeat' (first
    | (first | ((with_reducible refine Br.tt ?_); conv => whnf) | ((with_reducible refine Br.ff ?_); conv => whnf))
    | ((with_reducible refine Ar.i64 ?_ ?_); (focus omega); conv => whnf)
    | ((with_reducible refine Nc.go' (fun _ => ?_)); conv => whnf)
    | (refine Ld.at 0 rfl rfl ?_; conv => whnf)
    | ((with_reducible refine Dr.by (id := 3) Tryz.tysOk rfl [(0, 0), (1, 1), (2, 1), (3, 0), (4, 0), (5, 0), (7, 0), (9, 0), (6, 1), (8, 1), (10, 1), (11, 1), (12, 0), (13, 1), (14, 0), (15, 0), (16, 0)] ?_ ?_); (focus kernel_rfl); conv => whnf)
    | (first | ((with_reducible refine CD.is (fun M => hrg _) ?_); conv => whnf) | ((with_reducible refine CD.is (fun M => Tryz.confIn _ _ _ _) ?_); conv => whnf))
    | ((with_reducible refine Cl.is (Tryz.confIn _ _ _ _) ?_); conv => whnf)
    | (first | ((with_reducible refine Br.ds (fun _ => ?_) (fun _ => ?_) ) <;> (conv => whnf)) | ((with_reducible refine Br.nds (fun _ => ?_) (fun _ => ?_) ) <;> (conv => whnf))))
  all_goals (refine Is.ent ?_ ?_; (focus (refine FEnt.ent ?_; (repeat (first | exact FEnt.rfl | refine FEnt.drop ?_)); done)); (first | exact Is.ff (by omega) | (refine Is.dec ?_; omega)))
end Go.Proofs
