/- Rows of eight registers within a block, at a place that is not known. -/
import Derived.Test.YtloaknocdnpedaaGreatDoorEngStr
set_option linter.all false
namespace Go.Eng
set_option linter.unusedVariables false
variable {P : Program} {τ : Tys} {L : List HP}
/-- registers, one of them anew -/
def upd (r : Nat → Int) (n : Nat) (v : Int) : Nat → Int := fun i => if i = n then v else r i
theorem upd_at {r : Nat → Int} {n : Nat} {v : Int} : upd r n v n = v := if_pos rfl
theorem upd_ne {r : Nat → Int} {n i : Nat} {v : Int} (h : i ≠ n) : upd r n v i = r i := if_neg h
abbrev stC (pc : Int) (r : Nat → Int) (m : Int) : List Value := [.int .i64 pc, .int .i64 (r 0), .int .i64 (r 1), .int .i64 (r 2), .int .i64 (r 3), .int .i64 (r 4), .int .i64 (r 5), .int .i64 (r 6), .int .i64 (r 7), .int .i64 m]
theorem stC_at (pc : Int) (r : Nat → Int) (m : Int) {n : Nat} (h : n < 8) : (stC pc r m)[1 + n]? = some (.int .i64 (r n)) := by
  match n, h with
  | 0, _ => rfl
  | 1, _ => rfl
  | 2, _ => rfl
  | 3, _ => rfl
  | 4, _ => rfl
  | 5, _ => rfl
  | 6, _ => rfl
  | 7, _ => rfl
theorem stC_set (pc : Int) (r : Nat → Int) (m v : Int) {n : Nat} (h : n < 8) : (stC pc r m).set (1 + n) (.int .i64 v) = stC pc (upd r n v) m := by
  match n, h with
  | 0, _ => rfl
  | 1, _ => rfl
  | 2, _ => rfl
  | 3, _ => rfl
  | 4, _ => rfl
  | 5, _ => rfl
  | 6, _ => rfl
  | 7, _ => rfl
/-- an element's address, in a row whose block is known -/
theorem Ix.arr {b o len sz : Nat} {n : Int} {K : Addr → Prop} (hb : 0 ≤ n ∧ n < len) (k : K ⟨b, o + n.toNat * sz, none⟩) : Ix (some ⟨b, o, none⟩) len n sz K :=
  ⟨_, rfl, hb.1, hb.2, by rw [add_of]; exact k⟩
theorem Ld.reg {b : Nat} {t : TypeId} {pc m n : Int} {r : Nat → Int} {K : Value → Prop} (i : Nat) (hi : L[i]? = some (ptc b t (stC pc r m))) (hb : 0 ≤ n ∧ n < 8) (k : K (.int .i64 (r n.toNat))) : Ld L ⟨b, 1 + n.toNat * 1, none⟩ K :=
  Ld.at i hi (by rw [Nat.mul_one]; exact stC_at pc r m (by omega)) k
theorem St.reg {b : Nat} {t : TypeId} {pc m n v : Int} {r : Nat → Int} {K : List HP → Prop} (i : Nat) (hi : L[i]? = some (ptc b t (stC pc r m))) (hb : 0 ≤ n ∧ n < 8) (k : lsetK L i (ptc b t (stC pc (upd r n.toNat v) m)) K) :
    St P L ⟨b, 1 + n.toNat * 1, none⟩ [.int .i64 v] K := by
  refine St.at i hi (by rw [Nat.mul_one]; show 1 + n.toNat + 1 ≤ 10; omega) rfl ?_
  have e : ovr (stC pc r m) (1 + n.toNat * 1) [.int .i64 v] = stC pc (upd r n.toNat v) m := by
    rw [Nat.mul_one, ← stC_set pc r m v (by omega : n.toNat < 8), ovr_eq (by show 1 + n.toNat + 1 ≤ 10; omega), List.set_eq_take_append_cons_drop, if_pos (by show 1 + n.toNat < 10; omega)]
    simp
  rw [e]
  exact k
end Go.Eng
