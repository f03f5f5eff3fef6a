/- The memory's laws: what is told, and whole plays. -/
import Derived.Test.YtpdgkadpffnmpaaMemLaw
set_option linter.all false
namespace Go.Proofs
open Go.Eng
set_option linter.unusedVariables false
set_option maxRecDepth 100000
set_option maxHeartbeats 800000
/-- the bytes behind deeds -/
def dstep (xs : List UInt8) (d : Deed) : List UInt8 := if 0 ≤ d.1 ∧ d.1 < 3 then wroteF xs d else xs
def playF (xs : List UInt8) (ds : List Deed) : List UInt8 := ds.foldl dstep xs
theorem dstep_len (xs : List UInt8) (d : Deed) : (dstep xs d).length = xs.length := by
  unfold dstep
  split
  · exact wroteF_len xs d
  · rfl
theorem playF_len : ∀ (ds : List Deed) (xs : List UInt8), (playF xs ds).length = xs.length
  | [], xs => rfl
  | d :: ds, xs => (playF_len ds (dstep xs d)).trans (dstep_len xs d)
theorem playF_take {xs : List UInt8} {ds : List Deed} {k : Nat} (h : k < ds.length) : playF xs (ds.take (k + 1)) = dstep (playF xs (ds.take k)) (ds.getD k deedE.d) := by
  rw [take_snoc' deedE.d h]; simp [playF]
/-- a new memory's bytes -/
abbrev newB (size : Int) : List UInt8 := zeros (min (max size 0) 16384).toNat
theorem newB_len {size : Int} (h : size ≤ 400) : (newB size).length ≤ 400 := by rw [List.length_replicate]; omega
end Go.Proofs
