/- Numbers as bytes: contracts. -/
import Derived.Test.YtloaknocdnpedaaGreatDoorEngStr
import Derived.Test.YtloaknocdnpedaaGreatDoorTys
set_option linter.all false
namespace Go.Proofs
open Go.Eng
set_option linter.unusedVariables false
set_option maxRecDepth 100000
/-- int's bounds -/
abbrev I64 (n : Int) : Prop := -9223372036854775808 ≤ n ∧ n ≤ 9223372036854775807
theorem Tryz.rest (n m : Int) (h : I64 n) (hm : m = 256 ∨ m = 65536) (L : List HP) :
    Con Tryz.prog 61 [.int .i64 n, .int .i64 m] L (Is (.int .i64 (n % m)) L) := by
  rcases hm with rfl | rfl
  · have h2 : n.tmod 256 = if 0 ≤ n then n % 256 else -((-n) % 256) := tmod_eq_if n 256
    refine con_of Tryz.tysOk Tryz.func61 rfl rfl ?_
    conv => whnf
    repeat' (first
      | ((with_reducible refine Ar.i64 ?_ ?_); (focus omega); conv => whnf)
      | ((with_reducible refine Nd.mk ?_ ?_); (focus (first | omega | rfl | assumption | (simp; done))); conv => whnf)
      | ((with_reducible refine Br.ds (fun _ => ?_) (fun _ => ?_) ) <;> (conv => whnf)))
    all_goals (refine Is.int ?_; split at h2 <;> omega)
  · have h2 : n.tmod 65536 = if 0 ≤ n then n % 65536 else -((-n) % 65536) := tmod_eq_if n 65536
    refine con_of Tryz.tysOk Tryz.func61 rfl rfl ?_
    conv => whnf
    repeat' (first
      | ((with_reducible refine Ar.i64 ?_ ?_); (focus omega); conv => whnf)
      | ((with_reducible refine Nd.mk ?_ ?_); (focus (first | omega | rfl | assumption | (simp; done))); conv => whnf)
      | ((with_reducible refine Br.ds (fun _ => ?_) (fun _ => ?_) ) <;> (conv => whnf)))
    all_goals (refine Is.int ?_; split at h2 <;> omega)
theorem Tryz.refLow (n : Int) (h : I64 n) (L : List HP) :
    Con Tryz.prog 37 [.int .i64 n] L (Is (.int .i64 (n % 256)) L) := by
  refine con_of Tryz.tysOk Tryz.func37 rfl rfl ?_
  conv => whnf
  repeat' ((with_reducible refine Cl.is (Tryz.rest _ _ (by assumption) (.inl rfl) _) ?_); conv => whnf)
  exact Is.rfl
theorem Tryz.refHigh (n : Int) (h : I64 n) (L : List HP) :
    Con Tryz.prog 38 [.int .i64 n] L (Is (.int .i64 (n / 256 % 256)) L) := by
  have h2 : (n % 65536).tdiv 256 = n % 65536 / 256 := Int.tdiv_eq_ediv_of_nonneg (by omega)
  refine con_of Tryz.tysOk Tryz.func38 rfl rfl ?_
  conv => whnf
  repeat' (first
    | ((with_reducible refine Ar.i64 ?_ ?_); (focus omega); conv => whnf)
    | ((with_reducible refine Nd.mk ?_ ?_); (focus (first | omega | rfl | assumption | (simp; done))); conv => whnf)
    | ((with_reducible refine Cl.is (Tryz.rest _ _ (by assumption) (.inr rfl) _) ?_); conv => whnf))
  exact Is.int (by omega)
theorem or_low (x y : Int) (hx : 0 ≤ x ∧ x ≤ 255) (hy : 0 ≤ y ∧ y ≤ 255) : bits .or .i64 x (y * 256) = x + 256 * y := by
  show IntKind.i64.wrap ((BitVec.ofInt 64 x ||| BitVec.ofInt 64 (y * 256)).toNat : Int) = _
  obtain ⟨a, rfl⟩ := Int.eq_ofNat_of_zero_le hx.1
  obtain ⟨b, rfl⟩ := Int.eq_ofNat_of_zero_le hy.1
  have e : (BitVec.ofInt 64 (a : Int) ||| BitVec.ofInt 64 ((b : Int) * 256)).toNat = a + 256 * b := by
    rw [BitVec.toNat_or, BitVec.toNat_ofInt, BitVec.toNat_ofInt]
    have e1 : ((a : Int) % (2 ^ 64 : Nat)).toNat = a := by omega
    have e2 : ((b : Int) * 256 % (2 ^ 64 : Nat)).toNat = 2 ^ 8 * b := by omega
    rw [e1, e2, Nat.or_comm, ← Nat.two_pow_add_eq_or_of_lt (by omega : a < 2 ^ 8)]
    omega
  rw [e, IntKind.wrap_i64]
  omega
theorem Tryz.two (x y : Int) (h : I64 x) (k : I64 y) (L : List HP) :
    Con Tryz.prog 66 [.int .i64 x, .int .i64 y] L (Is (.int .i64 (x % 256 + 256 * (y % 256))) L) := by
  refine con_of Tryz.tysOk Tryz.func66 rfl rfl ?_
  conv => whnf
  repeat' (first
    | (first | ((with_reducible refine Bt.low8 ?_ ?_); (focus (first | assumption | omega)); conv => whnf) | (refine Bt.is (or_low _ _ (by omega) (by omega)) ?_; conv => whnf))
    | ((with_reducible refine Ar.shl8 ?_ ?_); (focus omega); conv => whnf)
    | ((with_reducible refine Nd.mk ?_ ?_); (focus (first | omega | rfl | assumption | (simp; done))); conv => whnf))
  exact Is.rfl
theorem u8I (x : UInt8) : I64 (x.toNat : Int) := ⟨by omega, by have := u8_lt x; omega⟩
theorem Tryz.twoB (x y : UInt8) (L : List HP) : Con Tryz.prog 66 [.int .i64 (x.toNat : Int), .int .i64 (y.toNat : Int)] L (Is (.int .i64 ((x.toNat : Int) + 256 * (y.toNat : Int))) L) := by
  have h := Tryz.two x.toNat y.toNat (u8I x) (u8I y) L
  have h1 := u8_lt x
  have h2 := u8_lt y
  rwa [Int.emod_eq_of_lt (by omega) (by omega), Int.emod_eq_of_lt (by omega) (by omega)] at h
/-- a number's two bytes -/
def putB (n : Int) : List UInt8 := [u8of n, u8of (n / 256)]
end Go.Proofs
