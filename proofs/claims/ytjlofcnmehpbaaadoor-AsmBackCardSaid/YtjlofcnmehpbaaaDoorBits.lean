/- Numbers as bytes: contracts. -/
import Derived.Test.YtjlofcnmehpbaaaDoorEngStr
import Derived.Test.YtjlofcnmehpbaaaDoorTys
set_option linter.all false
namespace Go.Proofs
open Go.Eng
set_option linter.unusedVariables false
set_option maxRecDepth 100000
/-- int's bounds -/
abbrev I64 (n : Int) : Prop := -9223372036854775808 ≤ n ∧ n ≤ 9223372036854775807
theorem Tryd.rest (n m : Int) (h : I64 n) (hm : m = 256 ∨ m = 65536) (L : List HP) :
    Con Tryd.prog 48 [.int .i64 n, .int .i64 m] L (Is (.int .i64 (n % m)) L) := by
  rcases hm with rfl | rfl
  · have h2 : n.tmod 256 = if 0 ≤ n then n % 256 else -((-n) % 256) := tmod_eq_if n 256
    refine con_of Tryd.tysOk Tryd.func48 rfl rfl ?_
    conv => whnf
    repeat' (first
      | ((with_reducible refine Ar.i64 ?_ ?_); (focus omega); conv => whnf)
      | ((with_reducible refine Nd.mk ?_ ?_); (focus (first | omega | rfl | assumption | (simp; done))); conv => whnf)
      | ((with_reducible refine Br.ds (fun _ => ?_) (fun _ => ?_) ) <;> (conv => whnf)))
    all_goals (refine Is.int ?_; split at h2 <;> omega)
  · have h2 : n.tmod 65536 = if 0 ≤ n then n % 65536 else -((-n) % 65536) := tmod_eq_if n 65536
    refine con_of Tryd.tysOk Tryd.func48 rfl rfl ?_
    conv => whnf
    repeat' (first
      | ((with_reducible refine Ar.i64 ?_ ?_); (focus omega); conv => whnf)
      | ((with_reducible refine Nd.mk ?_ ?_); (focus (first | omega | rfl | assumption | (simp; done))); conv => whnf)
      | ((with_reducible refine Br.ds (fun _ => ?_) (fun _ => ?_) ) <;> (conv => whnf)))
    all_goals (refine Is.int ?_; split at h2 <;> omega)
theorem Tryd.refLow (n : Int) (h : I64 n) (L : List HP) :
    Con Tryd.prog 31 [.int .i64 n] L (Is (.int .i64 (n % 256)) L) := by
  refine con_of Tryd.tysOk Tryd.func31 rfl rfl ?_
  conv => whnf
  repeat' ((with_reducible refine Cl.is (Tryd.rest _ _ (by assumption) (.inl rfl) _) ?_); conv => whnf)
  exact Is.rfl
theorem Tryd.refHigh (n : Int) (h : I64 n) (L : List HP) :
    Con Tryd.prog 32 [.int .i64 n] L (Is (.int .i64 (n / 256 % 256)) L) := by
  have h2 : (n % 65536).tdiv 256 = n % 65536 / 256 := Int.tdiv_eq_ediv_of_nonneg (by omega)
  refine con_of Tryd.tysOk Tryd.func32 rfl rfl ?_
  conv => whnf
  repeat' (first
    | ((with_reducible refine Ar.i64 ?_ ?_); (focus omega); conv => whnf)
    | ((with_reducible refine Nd.mk ?_ ?_); (focus (first | omega | rfl | assumption | (simp; done))); conv => whnf)
    | ((with_reducible refine Cl.is (Tryd.rest _ _ (by assumption) (.inr rfl) _) ?_); conv => whnf))
  exact Is.int (by omega)
theorem or_low (x y : Int) (hx : 0 ≤ x ∧ x ≤ 255) (hy : 0 ≤ y ∧ y ≤ 255) : bits .or .i64 x (y * 256) = x + 256 * y := by
  show IntKind.i64.wrap ((BitVec.ofInt 64 x ||| BitVec.ofInt 64 (y * 256)).toNat : Int) = _
  obtain ⟨a, rfl⟩ := Int.eq_ofNat_of_zero_le hx.1
  obtain ⟨b, rfl⟩ := Int.eq_ofNat_of_zero_le hy.1
  have e : (BitVec.ofInt 64 (a : Int) ||| BitVec.ofInt 64 ((b : Int) * 256)).toNat = a + 256 * b := by
    rw [BitVec.toNat_or, BitVec.toNat_ofInt, BitVec.toNat_ofInt]
    have e1 : ((a : Int) % (2 ^ 64 : Nat)).toNat = a := by omega
    have e2 : ((b : Int) * 256 % (2 ^ 64 : Nat)).toNat = 2 ^ 8 * b := by omega
    rw [e1, e2, Nat.or_comm, ← Nat.two_pow_add_eq_or_of_lt (by omega : a < 2 ^ 8)]
    omega
  rw [e, IntKind.wrap_i64]
  omega
theorem u8I (x : UInt8) : I64 (x.toNat : Int) := ⟨by omega, by have := u8_lt x; omega⟩
/-- a number's two bytes -/
def putB (n : Int) : List UInt8 := [u8of n, u8of (n / 256)]
theorem Tryd.put (n : Int) (h : I64 n) (L : List HP) : Con Tryd.prog 47 [.int .i64 n] L (Is (.string ⟨(putB n).toArray⟩) L) := by
  refine con_of Tryd.tysOk Tryd.func47 rfl rfl ?_
  conv => whnf
  repeat' (first
    | ((with_reducible refine Bt.shr8 ?_); conv => whnf)
    | ((with_reducible refine Ar.u8b ?_); conv => whnf)
    | ((with_reducible refine Nd.mk ?_ ?_); (focus (first | omega | rfl | assumption | (simp; done))); conv => whnf)
    | ((with_reducible refine Nc.go' (fun _ => ?_)); conv => whnf)
    | ((with_reducible refine (?_ : Sm _ (convert _ _ _) _ _)); ((apply (Sm.b2s Tryd.tysOk)); (rotate_left; (focus (exact Rd.ptc 0 rfl [_, _] rfl)); rotate_right; (focus rfl)); (focus rfl); (focus rfl); (focus rfl); (focus rfl); (focus rfl); (focus rfl); conv => whnf)))
  all_goals (refine Is.ent ?_ ?_; (focus (refine FEnt.ent ?_; (repeat (first | exact FEnt.rfl | refine FEnt.drop ?_)); done)); (exact Is.rfl))
end Go.Proofs
