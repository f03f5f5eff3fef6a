/- An image's tables, read: contracts (printed by program). -/
import Derived.Test.YtdjpcfaidgofoaaGreatSlot
import Derived.Test.YtdjpcfaidgofoaaGreatCode
set_option linter.all false
namespace Go.Proofs
open Go.Eng
open Classical
set_option linter.unusedVariables false
set_option maxRecDepth 100000
set_option maxHeartbeats 1000000
/-- a client's row -/
structure Cli where
  b : Int
  z : Int
  r : Int
  t : Int
  q : Int
  u : Int
  m : Int
  h : Int
  f : Int
  s : Int
def clE : Enc Cli := ⟨10, fun x => [n64 x.b, n64 x.z, n64 x.r, n64 x.t, n64 x.q, n64 x.u, n64 x.m, n64 x.h, n64 x.f, n64 x.s], ⟨0, 0, 0, 0, 0, 0, 0, 0, 0, 0⟩, fun _ => rfl, by omega, fun _ => rfl⟩
abbrev clC (x : Cli) : List Value := [n64 x.b, n64 x.z, n64 x.r, n64 x.t, n64 x.q, n64 x.u, n64 x.m, n64 x.h, n64 x.f, n64 x.s]
abbrev clV (x : Cli) : Value := .agg #[n64 x.b, n64 x.z, n64 x.r, n64 x.t, n64 x.q, n64 x.u, n64 x.m, n64 x.h, n64 x.f, n64 x.s]
/-- tables: a frame, windows, slots, clients -/
structure Cfg where
  F : Int
  wa : Option Addr
  wc : Nat
  ws : List Slt
  sa : Option Addr
  sc : Nat
  ss : List Slt
  ca : Option Addr
  cc : Nat
  xs : List Cli
abbrev cfC (C : Cfg) : List Value := [n64 C.F, .slice C.wa C.ws.length C.wc, .slice C.sa C.ss.length C.sc, .slice C.ca C.xs.length C.cc]
abbrev cfV (C : Cfg) : Value := .agg #[n64 C.F, .slice C.wa C.ws.length C.wc, .slice C.sa C.ss.length C.sc, .slice C.ca C.xs.length C.cc]
abbrev I64c (n : Int) : Prop := -9223372036854775808 ≤ n ∧ n ≤ 9223372036854775807
structure ClB (x : Cli) : Prop where
  b : I64c x.b
  z : I64c x.z
  r : I64c x.r
  t : I64c x.t
  q : I64c x.q
  u : I64c x.u
  m : I64c x.m
  h : I64c x.h
  f : I64c x.f
  s : I64c x.s
structure CfB (C : Cfg) : Prop where
  F : I64c C.F
  w : ∀ x ∈ C.ws, slB x
  s : ∀ x ∈ C.ss, slB x
  c : ∀ x ∈ C.xs, ClB x
  wc : C.ws.length ≤ C.wc
  sc : C.ss.length ≤ C.sc
  cc : C.xs.length ≤ C.cc
abbrev cX (C : Cfg) (i : Nat) : Cli := C.xs.getD i clE.d
abbrev cW (C : Cfg) (i : Nat) : Slt := C.ws.getD i slE.d
abbrev cS (C : Cfg) (i : Nat) : Slt := C.ss.getD i slE.d
abbrev frF (C : Cfg) : Prop := 1 ≤ C.F ∧ C.F ≤ 4096 ∧ 1 ≤ C.xs.length ∧ C.xs.length ≤ 8 ∧ C.ws.length ≤ 9 ∧ C.ss.length ≤ 32
abbrev ringK (n : Int) : Prop := n = 1 ∨ n = 2 ∨ n = 4 ∨ n = 8 ∨ n = 16
def ringN (n : Int) : Int := if ringK n then 2 + 8 * n else 0
theorem ringN_bd (n : Int) : 0 ≤ ringN n ∧ ringN n ≤ 130 := by
  unfold ringN
  split <;> omega
abbrev goodP (x : Cli) (R : Int) : Prop := (32 ≤ x.z ∧ x.z ≤ 1024 ∧ 128 ≤ x.b ∧ x.b ≤ 16384 - x.z) ∧ (¬ R = 0 ∧ 0 ≤ x.t ∧ x.t ≤ x.z - R) ∧ (1 ≤ x.q ∧ x.q ≤ 16 ∧ 0 ≤ x.u ∧ x.u ≤ 16) ∧ (0 ≤ x.m ∧ x.m ≤ 255 ∧ 0 ≤ x.h ∧ x.h ≤ 255) ∧ (0 ≤ x.s ∧ x.s ≤ 64 ∧ 0 ≤ x.f ∧ x.f ≤ 512 - x.s)
abbrev goodC (x : Cli) : Prop := goodP x (ringN x.r)
abbrev sameC (x y : Cli) : Prop := x.m = y.m ∨ x.h = y.h ∨ meetS x.b (x.b + x.z) y.b (y.b + y.z) ∨ meetS x.f (x.f + x.s) y.f (y.f + y.s)
abbrev goodWf (C : Cfg) (o f t : Int) : Prop := (0 ≤ o ∧ o ≤ C.xs.length) ∧ isS f t ∧ t ≤ C.F
abbrev goodSf (C : Cfg) (o f t : Int) : Prop := (1 ≤ o ∧ o ≤ C.xs.length) ∧ (isS f t ∧ t ≤ C.F) ∧ 4 ≤ t - f
abbrev goodW (C : Cfg) (w : Slt) : Prop := goodWf C w.1 w.2.1 w.2.2
abbrev goodS (C : Cfg) (s : Slt) : Prop := goodSf C s.1 s.2.1 s.2.2
theorem tdq {x : Int} (h : 0 ≤ x) : x.tdiv 4 = x / 4 := Int.tdiv_eq_ediv_of_nonneg h
theorem Tryz.refFrame (C : Cfg) (L : List HP) : Con Tryz.prog 18 [cfV C] L (Is (.bool (decide (frF C))) L) := by
  refine con_of Tryz.tysOk Tryz.func18 rfl rfl ?_
  conv => whnf
  repeat' (first
    | (first | ((with_reducible refine Br.tt ?_); conv => whnf) | ((with_reducible refine Br.ff ?_); conv => whnf))
    | ((with_reducible refine Nc.go' (fun _ => ?_)); conv => whnf)
    | (refine Ld.at 0 rfl rfl ?_; conv => whnf)
    | ((with_reducible refine Br.ds (fun _ => ?_) (fun _ => ?_) ) <;> (conv => whnf)))
  all_goals (refine Is.ent ?_ ?_; (focus (refine FEnt.ent ?_; (repeat (first | exact FEnt.rfl | refine FEnt.drop ?_)); done)); (first | exact Is.ff (by omega) | (refine Is.dec ?_; omega)))
theorem Tryz.confIn (n a b : Int) (L : List HP) : Con Tryz.prog 95 [n64 n, n64 a, n64 b] L (Is (.bool (decide (a ≤ n ∧ n ≤ b))) L) := by
  refine con_of Tryz.tysOk Tryz.func95 rfl rfl ?_
  conv => whnf
  repeat' (first
    | (first | ((with_reducible refine Br.tt ?_); conv => whnf) | ((with_reducible refine Br.ff ?_); conv => whnf))
    | ((with_reducible refine Br.ds (fun _ => ?_) (fun _ => ?_) ) <;> (conv => whnf)))
  all_goals (refine Is.ent ?_ ?_; (focus (exact Ent.rfl)); (first | exact Is.ff (by omega) | (refine Is.dec ?_; omega)))
theorem Tryz.confFrame (C : Cfg) (L : List HP) : Con Tryz.prog 54 [cfV C] L (Is (.bool (decide (frF C))) L) := by
  refine con_of Tryz.tysOk Tryz.func54 rfl rfl ?_
  conv => whnf
  repeat' (first
    | (first | ((with_reducible refine Br.tt ?_); conv => whnf) | ((with_reducible refine Br.ff ?_); conv => whnf))
    | ((with_reducible refine Nc.go' (fun _ => ?_)); conv => whnf)
    | (refine Ld.at 0 rfl rfl ?_; conv => whnf)
    | ((with_reducible refine Cl.is (Tryz.confIn _ _ _ _) ?_); conv => whnf)
    | ((with_reducible refine Br.ds (fun _ => ?_) (fun _ => ?_) ) <;> (conv => whnf)))
  all_goals (refine Is.ent ?_ ?_; (focus (refine FEnt.ent ?_; (repeat (first | exact FEnt.rfl | refine FEnt.drop ?_)); done)); (first | exact Is.ff (by omega) | (refine Is.dec ?_; omega)))
theorem Tryz.refRing (n : Int) (L : List HP) : Con Tryz.prog 89 [n64 n] L (Is (n64 (ringN n)) L) := by
  unfold ringN
  by_cases h : ringK n
  · rw [if_pos h, Int.add_comm]
    refine con_of Tryz.tysOk Tryz.func89 rfl rfl ?_
    conv => whnf
    repeat' (first
      | (first | ((with_reducible refine Br.tt ?_); conv => whnf) | ((with_reducible refine Br.ff ?_); conv => whnf) | ((with_reducible refine Br.dt ?_ ?_); (focus (first | assumption | omega)); conv => whnf))
      | ((with_reducible refine Ar.i64 ?_ ?_); (focus omega); conv => whnf)
      | ((with_reducible refine Br.ds (fun _ => ?_) (fun _ => ?_) ) <;> (conv => whnf)))
    all_goals first | (refine Is.ent ?_ ?_; (focus (exact Ent.rfl)); (exact Is.rfl)) | (exfalso; omega)
  · rw [if_neg h]
    refine con_of Tryz.tysOk Tryz.func89 rfl rfl ?_
    conv => whnf
    repeat' (first | ((with_reducible refine Br.ff ?_); conv => whnf) | ((with_reducible refine Br.df ?_ ?_); (focus (first | assumption | omega)); conv => whnf))
    all_goals first | (refine Is.ent ?_ ?_; (focus (exact Ent.rfl)); (exact Is.rfl)) | (exfalso; omega)
theorem Tryz.confRing (n : Int) (L : List HP) : Con Tryz.prog 161 [n64 n] L (Is (n64 (ringN n)) L) := by
  unfold ringN
  by_cases h : ringK n
  · rw [if_pos h]
    refine con_of Tryz.tysOk Tryz.func161 rfl rfl ?_
    conv => whnf
    repeat' (first
      | ((with_reducible refine Br.dt ?_ ?_); (focus (first | assumption | omega)); conv => whnf)
      | ((with_reducible refine Ar.i64 ?_ ?_); (focus omega); conv => whnf)
      | ((with_reducible refine Br.ds (fun _ => ?_) (fun _ => ?_) ) <;> (conv => whnf)))
    all_goals first | (refine Is.ent ?_ ?_; (focus (exact Ent.rfl)); (exact Is.rfl)) | (exfalso; omega)
  · rw [if_neg h]
    refine con_of Tryz.tysOk Tryz.func161 rfl rfl ?_
    conv => whnf
    repeat' ((with_reducible refine Br.df ?_ ?_); (focus (first | assumption | omega)); conv => whnf)
    all_goals first | (refine Is.ent ?_ ?_; (focus (exact Ent.rfl)); (exact Is.rfl)) | (exfalso; omega)
theorem Tryz.refBad (x : Cli) (L : List HP) (hx : ClB x) : Con Tryz.prog 42 [clV x] L (Is (.bool (decide (¬ goodC x))) L) := by
  have hR := ringN_bd x.r
  have hrg := fun L => Tryz.refRing x.r L
  unfold goodC
  generalize ringN x.r = R at *
  obtain ⟨h1, h2, h3, h4, h5, h6, h7, h8, h9, h10⟩ := hx
  obtain ⟨b, z, r, t, q, u, m, h, f, s⟩ := x
  dsimp only at *
  refine con_of Tryz.tysOk Tryz.func42 rfl rfl ?_
  conv => whnf
  repeat' (first
    | (first | ((with_reducible refine Br.tt ?_); conv => whnf) | ((with_reducible refine Br.ff ?_); conv => whnf))
    | ((with_reducible refine Ar.i64 ?_ ?_); (focus omega); conv => whnf)
    | ((with_reducible refine Nc.go' (fun _ => ?_)); conv => whnf)
    | (refine Ld.at 0 rfl rfl ?_; conv => whnf)
    | ((with_reducible refine Dr.by (id := 3) Tryz.tysOk rfl [(0, 0), (1, 1), (2, 1), (3, 0), (4, 0), (5, 0), (6, 1), (7, 0), (8, 0), (9, 0), (10, 0), (12, 0), (14, 0), (11, 1), (13, 1), (15, 1), (16, 1), (17, 0), (18, 0), (19, 0)] ?_ ?_); (focus kernel_rfl); conv => whnf)
    | ((with_reducible refine CD.is (fun M => hrg _) ?_); conv => whnf)
    | ((with_reducible refine Br.ds (fun _ => ?_) (fun _ => ?_) ) <;> (conv => whnf)))
  all_goals (refine Is.ent ?_ ?_; (focus (refine FEnt.ent ?_; (repeat (first | exact FEnt.rfl | refine FEnt.drop ?_)); done)); (first | exact Is.tt (by omega) | (refine Is.dec ?_; omega)))
theorem Tryz.confClient (x : Cli) (L : List HP) (hx : ClB x) : Con Tryz.prog 111 [clV x] L (Is (.bool (decide (goodC x))) L) := by
  have hR := ringN_bd x.r
  have hrg := fun L => Tryz.confRing x.r L
  unfold goodC
  generalize ringN x.r = R at *
  obtain ⟨h1, h2, h3, h4, h5, h6, h7, h8, h9, h10⟩ := hx
  obtain ⟨b, z, r, t, q, u, m, h, f, s⟩ := x
  dsimp only at *
  refine con_of Tryz.tysOk Tryz.func111 rfl rfl ?_
  conv => whnf
  repeat' (first
    | (first | ((with_reducible refine Br.tt ?_); conv => whnf) | ((with_reducible refine Br.ff ?_); conv => whnf))
    | ((with_reducible refine Ar.i64 ?_ ?_); (focus omega); conv => whnf)
    | ((with_reducible refine Nc.go' (fun _ => ?_)); conv => whnf)
    | (refine Ld.at 0 rfl rfl ?_; conv => whnf)
    | ((with_reducible refine Dr.by (id := 3) Tryz.tysOk rfl [(0, 0), (1, 1), (2, 1), (3, 0), (4, 0), (5, 0), (7, 0), (9, 0), (6, 1), (8, 1), (10, 1), (11, 1), (12, 0), (13, 1), (14, 0), (15, 0), (16, 0)] ?_ ?_); (focus kernel_rfl); conv => whnf)
    | (first | ((with_reducible refine CD.is (fun M => hrg _) ?_); conv => whnf) | ((with_reducible refine CD.is (fun M => Tryz.confIn _ _ _ _) ?_); conv => whnf))
    | ((with_reducible refine Cl.is (Tryz.confIn _ _ _ _) ?_); conv => whnf)
    | (first | ((with_reducible refine Br.ds (fun _ => ?_) (fun _ => ?_) ) <;> (conv => whnf)) | ((with_reducible refine Br.nds (fun _ => ?_) (fun _ => ?_) ) <;> (conv => whnf))))
  all_goals (refine Is.ent ?_ ?_; (focus (refine FEnt.ent ?_; (repeat (first | exact FEnt.rfl | refine FEnt.drop ?_)); done)); (first | exact Is.ff (by omega) | (refine Is.dec ?_; omega)))
end Go.Proofs
set_option linter.all false
namespace Go.Proofs
open Go.Eng
open Classical
set_option linter.unusedVariables false
set_option maxRecDepth 100000
set_option maxHeartbeats 4000000
/-! a reader in whatever state: whether all is well, and its place -/
abbrev Rst := Bool × Nat
def nxt (s : ByteArray) (n : Nat) (t : Rst) : Rst := if t.1 = true ∧ t.2 + n ≤ s.size then (true, t.2 + n) else (false, t.2)
def bV (s : ByteArray) (t : Rst) : Int := if t.1 = true ∧ t.2 + 1 ≤ s.size then ((sAt s t.2).toNat : Int) else 0
def wV (s : ByteArray) (t : Rst) : Int := if t.1 = true ∧ t.2 + 2 ≤ s.size then ((sAt s t.2).toNat : Int) + 256 * ((sAt s (t.2 + 1)).toNat : Int) else 0
def rE (t : Rst) : Int := if t.1 = true then 0 else 5
abbrev rdT (s : ByteArray) (t : Rst) : List Value := rdC (rE t) s t.2
theorem nxt_le {s : ByteArray} {n : Nat} {t : Rst} (h : t.2 ≤ s.size) : (nxt s n t).2 ≤ s.size := by
  unfold nxt
  split
  · rename_i h2; exact h2.2
  · exact h
theorem bV_bd (s : ByteArray) (t : Rst) : 0 ≤ bV s t ∧ bV s t ≤ 255 := by
  unfold bV
  have := u8_lt (sAt s t.2)
  split <;> omega
theorem wV_bd (s : ByteArray) (t : Rst) : 0 ≤ wV s t ∧ wV s t ≤ 65535 := by
  unfold wV
  have := u8_lt (sAt s t.2)
  have := u8_lt (sAt s (t.2 + 1))
  split <;> omega
theorem Tryz.rFail (b : Nat) (s : ByteArray) (k : Nat) (L : List HP) : Con Tryz.prog 135 [.pointer (some ⟨b, 0, none⟩), i64W 5] (ptc b 205 (rdC 0 s k) :: L) (Is (.tuple #[]) (ptc b 205 (rdC 5 s k) :: L)) := by
  refine con_of Tryz.tysOk Tryz.func135 rfl rfl ?_
  conv => whnf
  repeat' (first
    | ((with_reducible refine Br.dt ?_ ?_); (focus (first | assumption | omega)); conv => whnf)
    | ((with_reducible refine Nd.mk ?_ ?_); (focus (first | omega | rfl | assumption | (simp; done))); conv => whnf)
    | (refine Ld.at 0 rfl rfl ?_; conv => whnf)
    | (refine St.at 0 rfl (by first | exact Nat.le_of_ble_eq_true rfl | (simp; done)) rfl ?_; conv => whnf))
  all_goals (refine Is.ent ?_ ?_; (focus (exact Ent.rfl)); (exact Is.rfl))
theorem Tryz.rTake (b : Nat) (s : ByteArray) (n : Nat) (t : Rst) (L : List HP) (ht : t.2 ≤ s.size) (hs : s.size ≤ 1000000) (hn : n ≤ 1000) :
    Con Tryz.prog 92 [.pointer (some ⟨b, 0, none⟩), i64W n] (ptc b 205 (rdT s t) :: L) (Is (.string (if t.1 = true ∧ t.2 + n ≤ s.size then s.extract t.2 (t.2 + n) else ⟨#[]⟩)) (ptc b 205 (rdT s (nxt s n t)) :: L)) := by
  obtain ⟨ok, k⟩ := t
  dsimp only at ht
  cases ok with
  | true =>
    by_cases h : k + n ≤ s.size
    · have e1 : nxt s n (true, k) = (true, k + n) := if_pos ⟨rfl, h⟩
      rw [if_pos ⟨rfl, h⟩, e1]
      exact Tryz.rdTake b s k n L h (by omega)
    · have e1 : nxt s n (true, k) = (false, k) := if_neg (fun hh => h hh.2)
      rw [if_neg (fun hh => h hh.2), e1]
      change Con Tryz.prog 92 [.pointer (some ⟨b, 0, none⟩), i64W n] (ptc b 205 (rdC 0 s k) :: L) (Is (.string ⟨#[]⟩) (ptc b 205 (rdC 5 s k) :: L))
      refine con_of Tryz.tysOk Tryz.func92 rfl rfl ?_
      conv => whnf
      repeat' (first
        | (first | ((with_reducible refine Br.ff ?_); conv => whnf) | ((with_reducible refine Br.sn ?_); conv => whnf) | ((with_reducible refine Br.dt ?_ ?_); (focus (first | assumption | omega)); conv => whnf) | ((with_reducible refine Br.df ?_ ?_); (focus (first | assumption | omega)); conv => whnf) | ((with_reducible refine Br.ndf ?_ ?_); (focus (first | assumption | omega)); conv => whnf))
        | ((with_reducible refine Ar.i64 ?_ ?_); (focus omega); conv => whnf)
        | (refine Ld.at 0 rfl rfl ?_; conv => whnf)
        | ((with_reducible refine Dr.by (id := 6) Tryz.tysOk rfl [(0, 0), (1, 0), (2, 0), (3, 0), (6, 0), (7, 0), (8, 0), (4, 1), (5, 0), (9, 1), (10, 0), (11, 0), (12, 0)] ?_ ?_); (focus kernel_rfl); conv => whnf)
        | ((refine Cl.isAt 0 rfl (Tryz.rFail _ _ _ _) ?_); conv => whnf))
      all_goals first | (exfalso; omega) | (refine Is.ent ?_ ?_; (focus (exact Ent.rfl)); (exact Is.rfl))
  | false =>
    have e1 : nxt s n (false, k) = (false, k) := if_neg (fun hh => absurd hh.1 (by show ¬ false = true; decide))
    rw [if_neg (fun hh => absurd hh.1 (by show ¬ false = true; decide)), e1]
    change Con Tryz.prog 92 [.pointer (some ⟨b, 0, none⟩), i64W n] (ptc b 205 (rdC 5 s k) :: L) (Is (.string ⟨#[]⟩) (ptc b 205 (rdC 5 s k) :: L))
    refine con_of Tryz.tysOk Tryz.func92 rfl rfl ?_
    conv => whnf
    repeat' (first
      | (first | ((with_reducible refine Br.ff ?_); conv => whnf) | ((with_reducible refine Br.sn ?_); conv => whnf) | ((with_reducible refine Br.ndt ?_ ?_); (focus (first | assumption | omega)); conv => whnf))
      | (refine Ld.at 0 rfl rfl ?_; conv => whnf))
    all_goals first | (exfalso; omega) | (refine Is.ent ?_ ?_; (focus (exact Ent.rfl)); (exact Is.rfl))
theorem Tryz.rByte (b : Nat) (s : ByteArray) (t : Rst) (L : List HP) (ht : t.2 ≤ s.size) (hs : s.size ≤ 1000000) :
    Con Tryz.prog 94 [.pointer (some ⟨b, 0, none⟩)] (ptc b 205 (rdT s t) :: L) (Is (i64W (bV s t)) (ptc b 205 (rdT s (nxt s 1 t)) :: L)) := by
  have hk := fun L => Tryz.rTake b s 1 t L ht hs (by omega)
  unfold bV
  by_cases h : t.1 = true ∧ t.2 + 1 ≤ s.size
  · rw [if_pos h] at hk ⊢
    have hz := extract_size s t.2 (t.2 + 1) (by omega) h.2
    have hne : ¬ s.extract t.2 (t.2 + 1) = ⟨#[]⟩ := str_ne (by omega)
    have e0 : sAt (s.extract t.2 (t.2 + 1)) 0 = sAt s t.2 := sAt_extract (by omega) h.2
    clear h
    generalize rdT s (nxt s 1 t) = R1 at *
    generalize rdT s t = R0 at *
    refine con_of Tryz.tysOk Tryz.func94 rfl rfl ?_
    conv => whnf
    repeat' (first
      | ((with_reducible refine Br.df ?_ ?_); (focus (first | assumption | omega)); conv => whnf)
      | ((with_reducible refine Ar.i64b ?_); conv => whnf)
      | ((with_reducible refine SIx.mk' ?_ ?_); (focus (omega)); conv => whnf)
      | ((refine Cl.isAt 0 rfl (hk _) ?_); conv => whnf))
    all_goals first | (exfalso; omega) | exact Is.ent (by (exact Ent.rfl)) (Is.val (by rw [← e0]; rfl))
  · rw [if_neg h] at hk ⊢
    clear h
    generalize rdT s (nxt s 1 t) = R1 at *
    generalize rdT s t = R0 at *
    refine con_of Tryz.tysOk Tryz.func94 rfl rfl ?_
    conv => whnf
    repeat' (first
      | ((with_reducible refine Br.yes ?_ ?_); (focus (first | (simp; done) | (simp; omega))); conv => whnf)
      | ((refine Cl.isAt 0 rfl (hk _) ?_); conv => whnf))
    all_goals first | (exfalso; omega) | (refine Is.ent ?_ ?_; (focus (exact Ent.rfl)); (exact Is.rfl))
theorem Tryz.rTwo (b : Nat) (s : ByteArray) (t : Rst) (L : List HP) (ht : t.2 ≤ s.size) (hs : s.size ≤ 1000000) :
    Con Tryz.prog 93 [.pointer (some ⟨b, 0, none⟩)] (ptc b 205 (rdT s t) :: L) (Is (i64W (wV s t)) (ptc b 205 (rdT s (nxt s 2 t)) :: L)) := by
  have hk := fun L => Tryz.rTake b s 2 t L ht hs (by omega)
  unfold wV
  by_cases h : t.1 = true ∧ t.2 + 2 ≤ s.size
  · rw [if_pos h] at hk ⊢
    have hz := extract_size s t.2 (t.2 + 2) (by omega) h.2
    have hne : ¬ s.extract t.2 (t.2 + 2) = ⟨#[]⟩ := str_ne (by omega)
    have e0 : sAt (s.extract t.2 (t.2 + 2)) 0 = sAt s t.2 := sAt_extract (by omega) h.2
    have e1 : sAt (s.extract t.2 (t.2 + 2)) 1 = sAt s (t.2 + 1) := sAt_extract (by omega) h.2
    clear h
    generalize rdT s (nxt s 2 t) = R1 at *
    generalize rdT s t = R0 at *
    refine con_of Tryz.tysOk Tryz.func93 rfl rfl ?_
    conv => whnf
    repeat' (first
      | ((with_reducible refine Br.df ?_ ?_); (focus (first | assumption | omega)); conv => whnf)
      | ((with_reducible refine Ar.i64b ?_); conv => whnf)
      | ((with_reducible refine SIx.mk' ?_ ?_); (focus (omega)); conv => whnf)
      | ((with_reducible refine Dr.by (id := 4) Tryz.tysOk rfl [(0, 0), (1, 0), (2, 0), (3, 0), (4, 0), (5, 0), (6, 1), (7, 0)] ?_ ?_); (focus kernel_rfl); conv => whnf)
      | ((with_reducible refine CD.is (fun M => Tryz.twoB _ _ _) ?_); conv => whnf)
      | ((refine Cl.isAt 0 rfl (hk _) ?_); conv => whnf))
    all_goals first | (exfalso; omega) | exact Is.ent (by (exact Ent.rfl)) (Is.val (by rw [← e0, ← e1]; rfl))
  · rw [if_neg h] at hk ⊢
    clear h
    generalize rdT s (nxt s 2 t) = R1 at *
    generalize rdT s t = R0 at *
    refine con_of Tryz.tysOk Tryz.func93 rfl rfl ?_
    conv => whnf
    repeat' (first
      | ((with_reducible refine Br.yes ?_ ?_); (focus (first | (simp; done) | (simp; omega))); conv => whnf)
      | ((refine Cl.isAt 0 rfl (hk _) ?_); conv => whnf))
    all_goals first | (exfalso; omega) | (refine Is.ent ?_ ?_; (focus (exact Ent.rfl)); (exact Is.rfl))
theorem Tryz.rErr (b : Nat) (s : ByteArray) (t : Rst) (L : List HP) :
    Con Tryz.prog 51 [.pointer (some ⟨b, 0, none⟩)] (ptc b 205 (rdT s t) :: L) (Is (i64W (rE t)) (ptc b 205 (rdT s t) :: L)) := Tryz.rdErr b (rE t) s t.2 L
/-! rows -/
def rowW (s : ByteArray) (t : Rst) : Slt := (bV s t, wV s (nxt s 1 t), wV s (nxt s 2 (nxt s 1 t)))
def rowWn (s : ByteArray) (t : Rst) : Rst := nxt s 2 (nxt s 2 (nxt s 1 t))
def rowC (s : ByteArray) (t : Rst) : Cli :=
  let t1 := nxt s 2 t; let t2 := nxt s 2 t1; let t3 := nxt s 1 t2; let t4 := nxt s 2 t3; let t5 := nxt s 1 t4; let t6 := nxt s 1 t5; let t7 := nxt s 1 t6; let t8 := nxt s 1 t7; let t9 := nxt s 2 t8
  ⟨wV s t, wV s t1, bV s t2, wV s t3, bV s t4, bV s t5, bV s t6, bV s t7, wV s t8, bV s t9⟩
def rowCn (s : ByteArray) (t : Rst) : Rst := nxt s 1 (nxt s 2 (nxt s 1 (nxt s 1 (nxt s 1 (nxt s 1 (nxt s 2 (nxt s 1 (nxt s 2 (nxt s 2 t)))))))))
def winF (s : ByteArray) : Nat → Rst → List Slt × Rst
  | 0, t => ([], t)
  | n + 1, t => if t.1 = true then (rowW s t :: (winF s n (rowWn s t)).1, (winF s n (rowWn s t)).2) else ([], t)
def cliF (s : ByteArray) : Nat → Rst → List Cli × Rst
  | 0, t => ([], t)
  | n + 1, t => if t.1 = true then (rowC s t :: (cliF s n (rowCn s t)).1, (cliF s n (rowCn s t)).2) else ([], t)
abbrev Tb := List Slt × List Slt × List Cli × Rst
def fin2 (s : ByteArray) (n : Int) (t : Rst) (W S : List Slt) (X : List Cli) : Tb := (W, S, X ++ (cliF s n.toNat t).1, (cliF s n.toNat t).2)
def fin1 (s : ByteArray) (n : Int) (t : Rst) (W S : List Slt) : Tb := fin2 s (bV s (winF s n.toNat t).2) (nxt s 1 (winF s n.toNat t).2) W (S ++ (winF s n.toNat t).1) []
def fin0 (s : ByteArray) (n : Int) (t : Rst) (W : List Slt) : Tb := fin1 s (bV s (winF s n.toNat t).2) (nxt s 1 (winF s n.toNat t).2) (W ++ (winF s n.toNat t).1) []
def tblF (s : ByteArray) (t : Rst) : Tb := fin0 s (bV s (nxt s 2 t)) (nxt s 1 (nxt s 2 t)) []
theorem winF_go (s : ByteArray) {n : Int} {t : Rst} (hn : 0 < n) (h : t.1 = true) : winF s n.toNat t = (rowW s t :: (winF s (n - 1).toNat (rowWn s t)).1, (winF s (n - 1).toNat (rowWn s t)).2) := by
  obtain ⟨k, rfl⟩ : ∃ k : Nat, n = (k : Int) + 1 := ⟨(n - 1).toNat, by omega⟩
  rw [show ((k : Int) + 1).toNat = k + 1 by omega, show ((k : Int) + 1 - 1).toNat = k by omega, winF, if_pos h]
theorem winF_no (s : ByteArray) {n : Int} {t : Rst} (hn : ¬ (0 < n ∧ t.1 = true)) : winF s n.toNat t = ([], t) := by
  cases hk : n.toNat with
  | zero => rfl
  | succ k => rw [winF, if_neg (fun h => hn ⟨by omega, h⟩)]
theorem cliF_go (s : ByteArray) {n : Int} {t : Rst} (hn : 0 < n) (h : t.1 = true) : cliF s n.toNat t = (rowC s t :: (cliF s (n - 1).toNat (rowCn s t)).1, (cliF s (n - 1).toNat (rowCn s t)).2) := by
  obtain ⟨k, rfl⟩ : ∃ k : Nat, n = (k : Int) + 1 := ⟨(n - 1).toNat, by omega⟩
  rw [show ((k : Int) + 1).toNat = k + 1 by omega, show ((k : Int) + 1 - 1).toNat = k by omega, cliF, if_pos h]
theorem cliF_no (s : ByteArray) {n : Int} {t : Rst} (hn : ¬ (0 < n ∧ t.1 = true)) : cliF s n.toNat t = ([], t) := by
  cases hk : n.toNat with
  | zero => rfl
  | succ k => rw [cliF, if_neg (fun h => hn ⟨by omega, h⟩)]
theorem fin0_go (s : ByteArray) {n : Int} {t : Rst} (W : List Slt) (hn : 0 < n) (h : t.1 = true) : fin0 s n t W = fin0 s (n - 1) (rowWn s t) (W ++ [rowW s t]) := by
  unfold fin0
  rw [winF_go s hn h, List.append_assoc]
  rfl
theorem fin0_no (s : ByteArray) {n : Int} {t : Rst} (W : List Slt) (hn : ¬ (0 < n ∧ t.1 = true)) : fin0 s n t W = fin1 s (bV s t) (nxt s 1 t) W [] := by
  unfold fin0
  rw [winF_no s hn, List.append_nil]
theorem fin1_go (s : ByteArray) {n : Int} {t : Rst} (W S : List Slt) (hn : 0 < n) (h : t.1 = true) : fin1 s n t W S = fin1 s (n - 1) (rowWn s t) W (S ++ [rowW s t]) := by
  unfold fin1
  rw [winF_go s hn h, List.append_assoc]
  rfl
theorem fin1_no (s : ByteArray) {n : Int} {t : Rst} (W S : List Slt) (hn : ¬ (0 < n ∧ t.1 = true)) : fin1 s n t W S = fin2 s (bV s t) (nxt s 1 t) W S [] := by
  unfold fin1
  rw [winF_no s hn, List.append_nil]
theorem fin2_go (s : ByteArray) {n : Int} {t : Rst} (W S : List Slt) (X : List Cli) (hn : 0 < n) (h : t.1 = true) : fin2 s n t W S X = fin2 s (n - 1) (rowCn s t) W S (X ++ [rowC s t]) := by
  unfold fin2
  rw [cliF_go s hn h, List.append_assoc]
  rfl
theorem fin2_no (s : ByteArray) {n : Int} {t : Rst} (W S : List Slt) (X : List Cli) (hn : ¬ (0 < n ∧ t.1 = true)) : fin2 s n t W S X = (W, S, X, t) := by
  unfold fin2
  rw [cliF_no s hn, List.append_nil]
end Go.Proofs
