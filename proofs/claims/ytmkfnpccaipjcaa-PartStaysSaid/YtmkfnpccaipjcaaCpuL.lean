/- The processor's laws: moves, and what stays. -/
import Derived.Test.YtmkfnpccaipjcaaCpuJ
import Derived.Test.YtmkfnpccaipjcaaMemDiff
set_option linter.all false
namespace Go.Proofs
open Go.Eng
set_option linter.unusedVariables false
set_option maxRecDepth 100000
set_option maxHeartbeats 2000000
theorem seg_len2 {pre V post : List UInt8} {B N R : Nat} (hB : pre.length = B) (hN : V.length = N) (hR : post.length = R) : (pre ++ V ++ post).length = B + N + R := by
  simp only [List.length_append]; omega
theorem zeros_ex (B : Nat) : ∃ pre, zeros B = pre ∧ pre.length = B := ⟨zeros B, rfl, List.length_replicate⟩
theorem startM_ok2 {s : ByteArray} {N : Nat} {pc m : Int} {r : Nat → Int} (hN : N ≤ 400) (hpc : I64 pc) (hr : ∀ i, I64 (r i)) : Mok ⟨startV s N, pc, r, m⟩ := ⟨hr, hpc, by rw [startV_len]; exact hN⟩
/-- where two are unlike: within -/
theorem unl_seg {pre V W post : List UInt8} {B N R : Nat} (hB : pre.length = B) (hR : post.length = R) (hV : V.length = N) (hW : W.length = N) {m : Int} (h0 : 0 ≤ m) (hm : m < (B + N + R : Nat)) (h : unl 0 (pre ++ V ++ post) (pre ++ W ++ post) m) : (B : Int) ≤ m ∧ m < B + N := by
  have l1 := seg_len2 hB hV hR
  have l2 := seg_len2 hB hW hR
  have key : ∀ {X Y : List UInt8}, X.length = N → Y.length = N → ¬ ((B : Int) ≤ m ∧ m < B + N) → (pre ++ X ++ post).getD m.toNat 0 = (pre ++ Y ++ post).getD m.toNat 0 := by
    intro X Y hX hY hno
    simp only [List.getD_eq_getElem?_getD]
    by_cases h1 : m.toNat < B
    · rw [List.append_assoc, List.append_assoc, List.getElem?_append_left (by omega), List.getElem?_append_left (by omega)]
    · have e1 : (pre ++ X).length = B + N := by rw [List.length_append, hB, hX]
      have e2 : (pre ++ Y).length = B + N := by rw [List.length_append, hB, hY]
      rw [List.getElem?_append_right (by omega), List.getElem?_append_right (by omega), e1, e2]
  exact Classical.byContradiction fun hno => h ⟨by omega, by omega, key hV hW hno⟩
theorem diff_seg {pre V W post : List UInt8} {B N R : Nat} (hB : pre.length = B) (hR : post.length = R) (hV : V.length = N) (hW : W.length = N) : ∀ y ∈ runF (max (pre ++ V ++ post).length (pre ++ W ++ post).length : Nat) (unl 0 (pre ++ V ++ post) (pre ++ W ++ post)), (B : Int) ≤ y.1 ∧ y.2 ≤ B + N := by
  intro y hy
  have l1 := seg_len2 hB hV hR
  have l2 := seg_len2 hB hW hR
  have ho : RunsOf (max (pre ++ V ++ post).length (pre ++ W ++ post).length : Nat) (unl 0 (pre ++ V ++ post) (pre ++ W ++ post)) _ := runs_ok
  have hi := ho.canon.is y hy
  obtain ⟨a1, a2, a3⟩ := (ho.same y.1).1 ⟨y, hy, by omega⟩
  obtain ⟨c1, c2, c3⟩ := (ho.same (y.2 - 1)).1 ⟨y, hy, by omega⟩
  have d1 := unl_seg hB hR hV hW a1 (by omega) a3
  have d2 := unl_seg hB hR hV hW c1 (by omega) c3
  omega
end Go.Proofs
