/- The memory's laws: deeds, played on a memory and on the document's. -/
import Derived.Test.YtpdgkadpffnmpaaRefMem
set_option linter.all false
namespace Go.Proofs
open Go.Eng
set_option linter.unusedVariables false
set_option maxRecDepth 100000
set_option maxHeartbeats 600000
/-- a deed -/
abbrev Deed := Int × Int × Int × ByteArray
def deedE : Enc Deed := ⟨4, fun d => [i64V d.1, i64V d.2.1, i64V d.2.2.1, .string d.2.2.2], (0, 0, 0, ByteArray.empty), fun _ => rfl, by omega, fun _ => rfl⟩
abbrev deedV (d : Deed) : Value := .agg #[i64V d.1, i64V d.2.1, i64V d.2.2.1, .string d.2.2.2]
abbrev deedI (d : Deed) : Prop := I64 d.1 ∧ I64 d.2.1 ∧ I64 d.2.2.1
/-- the bytes that a deed writes -/
def deedB (d : Deed) : List UInt8 := if d.1 = 0 then [u8of d.2.2.1] else if d.1 = 1 then putB d.2.2.1 else d.2.2.2.data.toList
def wroteF (xs : List UInt8) (d : Deed) : List UInt8 := if thr xs.length d.2.1 (deedB d).length then lay xs d.2.1.toNat (deedB d) else xs
theorem wroteF_len (xs : List UInt8) (d : Deed) : (wroteF xs d).length = xs.length := by
  unfold wroteF
  split
  · rename_i h; rw [lay_len (by unfold thr at h; omega)]
  · rfl
/-- the document's bytes, and what is beside them: as before, or with more -/
structure Bts (A : HP) (xs : List UInt8) (x : HP × Option Addr × Nat) : Prop where
  read : Rd intE [x.1] x.2.1 (ints xs)
  keeps : Ent [x.1] [A]
  cap : (ints xs).length ≤ x.2.2
theorem lay_one {α : Type} {xs : List α} {k : Nat} {x : α} (h : k < xs.length) : lay xs k [x] = xs.set k x := by
  unfold lay
  rw [List.set_eq_take_append_cons_drop, if_pos h]
  simp
end Go.Proofs
