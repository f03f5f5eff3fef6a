/- The processor's laws: what they begin with. -/
import Derived.Test.YtmkfnpccaipjcaaCpuI
import Derived.Test.YtmkfnpccaipjcaaEngMore
set_option linter.all false
namespace Go.Proofs
open Go.Eng
set_option linter.unusedVariables false
set_option maxRecDepth 100000
set_option maxHeartbeats 8000000
/-- a program, at the head of so many bytes -/
def startV (s : ByteArray) (N : Nat) : List UInt8 := lay (zeros N) 0 (s.extract 0 (min (s.size : Int) (N : Int)).toNat).data.toList
theorem startV_len (s : ByteArray) (N : Nat) : (startV s N).length = N := by
  unfold startV
  rw [lay_len (by rw [extract_list, List.drop_zero, List.length_take, size_list, List.length_replicate]; omega), List.length_replicate]
theorem zeros_parts {n B N R : Nat} (h : n = B + N + R) : zeros n = zeros B ++ zeros N ++ zeros R := by
  subst h
  simp [zeros, List.replicate_append_replicate]
theorem Try.memNewP (n : Int) (B N R : Nat) (L : List HP) (hn : n = (B + N + R : Nat)) (h : n ≤ 16384) :
    Con Try.prog 12 [i64V n] L (Exs pV (fun b => Try.memH b (zeros B ++ zeros N ++ zeros R) :: L) (fun _ => True)) := by
  have := Try.memNew n L ⟨by omega, by omega⟩
  rw [zeros_parts (B := B) (N := N) (R := R) (by omega)] at this
  exact this
theorem Try.memPutP (b : Nat) (B N R : Nat) (at_ : Int) (s : ByteArray) (L : List HP) (hl : B + N + R ≤ 16384) (ha : at_ = B) (h : s.size ≤ N) :
    Con Try.prog 23 [pV b, i64V at_, .string s] (Try.memH b (zeros B ++ zeros N ++ zeros R) :: L) (Is (i64V 0) (Try.memH b (zeros B ++ lay (zeros N) 0 s.data.toList ++ zeros R) :: L)) := by
  have hB : (zeros B).length = B := List.length_replicate
  have hN : (zeros N).length = N := List.length_replicate
  have hR : (zeros R).length = R := List.length_replicate
  have hlen : (zeros B ++ zeros N ++ zeros R).length = B + N + R := by rw [List.length_append, List.length_append, hB, hN, hR]
  rw [← mid_lay (by rw [size_list]; omega)]
  exact Try.memPut b _ ((zeros B).length + 0) _ s L (by omega) (by omega) (by omega)
/-- the program that is tried whatever is asked -/
def liveS : ByteArray := ⟨#[1, 1, 7, 0, 3, 1, 1, 0, 0, 0, 0, 0]⟩
def liveM : Mch := ⟨lay (zeros 12) 0 liveS.data.toList, 0, fun _ => 0, 0⟩
theorem live_1 : (runS 9 liveM).r 1 = 14 := by kernel_rfl
theorem live_2 : (runS 9 liveM).pc = 8 := by kernel_rfl
theorem live_3 : (runS 9 liveM).m = 2 := by kernel_rfl
theorem live_4 : (runL 9 liveM).length = 3 := by kernel_rfl
theorem live_5 : ((runL 9 liveM).getD (Int.toNat 2) outE.d).1 = 4 := by kernel_rfl
end Go.Proofs
