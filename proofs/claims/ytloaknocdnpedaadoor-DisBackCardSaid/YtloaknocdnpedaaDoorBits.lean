/- Numbers as bytes: contracts. -/
import Derived.Test.YtloaknocdnpedaaDoorEngStr
import Derived.Test.YtloaknocdnpedaaDoorTys
set_option linter.all false
namespace Go.Proofs
open Go.Eng
set_option linter.unusedVariables false
set_option maxRecDepth 100000
/-- int's bounds -/
abbrev I64 (n : Int) : Prop := -9223372036854775808 ≤ n ∧ n ≤ 9223372036854775807
theorem or_low (x y : Int) (hx : 0 ≤ x ∧ x ≤ 255) (hy : 0 ≤ y ∧ y ≤ 255) : bits .or .i64 x (y * 256) = x + 256 * y := by
  show IntKind.i64.wrap ((BitVec.ofInt 64 x ||| BitVec.ofInt 64 (y * 256)).toNat : Int) = _
  obtain ⟨a, rfl⟩ := Int.eq_ofNat_of_zero_le hx.1
  obtain ⟨b, rfl⟩ := Int.eq_ofNat_of_zero_le hy.1
  have e : (BitVec.ofInt 64 (a : Int) ||| BitVec.ofInt 64 ((b : Int) * 256)).toNat = a + 256 * b := by
    rw [BitVec.toNat_or, BitVec.toNat_ofInt, BitVec.toNat_ofInt]
    have e1 : ((a : Int) % (2 ^ 64 : Nat)).toNat = a := by omega
    have e2 : ((b : Int) * 256 % (2 ^ 64 : Nat)).toNat = 2 ^ 8 * b := by omega
    rw [e1, e2, Nat.or_comm, ← Nat.two_pow_add_eq_or_of_lt (by omega : a < 2 ^ 8)]
    omega
  rw [e, IntKind.wrap_i64]
  omega
theorem Tryd.two (x y : Int) (h : I64 x) (k : I64 y) (L : List HP) :
    Con Tryd.prog 36 [.int .i64 x, .int .i64 y] L (Is (.int .i64 (x % 256 + 256 * (y % 256))) L) := by
  refine con_of Tryd.tysOk Tryd.func36 rfl rfl ?_
  conv => whnf
  repeat' (first
    | (first | ((with_reducible refine Bt.low8 ?_ ?_); (focus (first | assumption | omega)); conv => whnf) | (refine Bt.is (or_low _ _ (by omega) (by omega)) ?_; conv => whnf))
    | ((with_reducible refine Ar.shl8 ?_ ?_); (focus omega); conv => whnf)
    | ((with_reducible refine Nd.mk ?_ ?_); (focus (first | omega | rfl | assumption | (simp; done))); conv => whnf))
  exact Is.rfl
theorem u8I (x : UInt8) : I64 (x.toNat : Int) := ⟨by omega, by have := u8_lt x; omega⟩
theorem Tryd.twoB (x y : UInt8) (L : List HP) : Con Tryd.prog 36 [.int .i64 (x.toNat : Int), .int .i64 (y.toNat : Int)] L (Is (.int .i64 ((x.toNat : Int) + 256 * (y.toNat : Int))) L) := by
  have h := Tryd.two x.toNat y.toNat (u8I x) (u8I y) L
  have h1 := u8_lt x
  have h2 := u8_lt y
  rwa [Int.emod_eq_of_lt (by omega) (by omega), Int.emod_eq_of_lt (by omega) (by omega)] at h
/-- a number's two bytes -/
def putB (n : Int) : List UInt8 := [u8of n, u8of (n / 256)]
theorem Tryd.put (n : Int) (h : I64 n) (L : List HP) : Con Tryd.prog 47 [.int .i64 n] L (Is (.string ⟨(putB n).toArray⟩) L) := by
  refine con_of Tryd.tysOk Tryd.func47 rfl rfl ?_
  conv => whnf
  repeat' (first
    | ((with_reducible refine Bt.shr8 ?_); conv => whnf)
    | ((with_reducible refine Ar.u8b ?_); conv => whnf)
    | ((with_reducible refine Nd.mk ?_ ?_); (focus (first | omega | rfl | assumption | (simp; done))); conv => whnf)
    | ((with_reducible refine Nc.go' (fun _ => ?_)); conv => whnf)
    | ((with_reducible refine (?_ : Sm _ (convert _ _ _) _ _)); ((apply (Sm.b2s Tryd.tysOk)); (rotate_left; (focus (exact Rd.ptc 0 rfl [_, _] rfl)); rotate_right; (focus rfl)); (focus rfl); (focus rfl); (focus rfl); (focus rfl); (focus rfl); (focus rfl); conv => whnf)))
  all_goals (refine Is.ent ?_ ?_; (focus (refine FEnt.ent ?_; (repeat (first | exact FEnt.rfl | refine FEnt.drop ?_)); done)); (exact Is.rfl))
end Go.Proofs
