/- Marks as arguments. -/
import Derived.Test.YtkecobhmglcnfaaDoorEngOpen
import Derived.Test.YtkecobhmglcnfaaDoorTraceA
set_option linter.all false
namespace Go.Proofs
open Go.Eng
set_option linter.unusedVariables false
theorem Tryd.opInt {W : World} : Opn Tryd.prog W 3 (fun n : Int => [.int .i64 n]) (fun n => -9223372036854775808 ≤ n ∧ n ≤ 9223372036854775807) := op_i64 Tryd.underlying3
theorem Tryd.opStr {W : World} : Opn Tryd.prog W 9 (fun s : ByteArray => [.string s]) (fun s => s.size ≤ 9223372036854775807) := op_string Tryd.underlying9
theorem Tryd.opSpan {W : World} : Opn Tryd.prog W 25 spE.e (fun z => (-9223372036854775808 ≤ z.1 ∧ z.1 ≤ 9223372036854775807) ∧ (-9223372036854775808 ≤ z.2 ∧ z.2 ≤ 9223372036854775807) ∧ True) :=
  (op_struct Tryd.underlying25 (opF_cons (s := 1) Tryd.opInt rfl (by kernel_rfl) (opF_cons (s := 1) Tryd.opInt rfl (by kernel_rfl) opF_nil)) (by kernel_rfl)).map (fun y => (y.1, y.2.1)) (fun _ => rfl) (fun _ h => h)
theorem Tryd.opSort {W : World} : Opn Tryd.prog W 27 soE.e (fun n => 0 ≤ n ∧ n ≤ 255) := op_u8 Tryd.underlying27
theorem Tryd.opMark {W : World} : Opn Tryd.prog W 29 mrE.e (fun x => MrB x ∧ x.d.size ≤ 9223372036854775807) :=
  (op_struct Tryd.underlying29 (opF_cons (s := 1) Tryd.opInt rfl (by kernel_rfl) (opF_cons (s := 1) Tryd.opSort rfl (by kernel_rfl) (opF_cons (s := 1) Tryd.opInt rfl (by kernel_rfl) (opF_cons (s := 1) Tryd.opInt rfl (by kernel_rfl) (opF_cons (s := 1) Tryd.opInt rfl (by kernel_rfl) (opF_cons (s := 1) Tryd.opStr rfl (by kernel_rfl) opF_nil)))))) (by kernel_rfl)).map
    (fun y => (⟨y.1, y.2.1, y.2.2.1, y.2.2.2.1, y.2.2.2.2.1, y.2.2.2.2.2.1⟩ : Mrk)) (fun _ => rfl) (fun _ h => ⟨⟨h.1, h.2.1, h.2.2.1, h.2.2.2.1, h.2.2.2.2.1⟩, h.2.2.2.2.2.1⟩)
end Go.Proofs
