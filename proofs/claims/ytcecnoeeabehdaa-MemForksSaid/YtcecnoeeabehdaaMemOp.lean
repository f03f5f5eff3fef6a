/- Deeds as arguments. -/
import Derived.Test.YtcecnoeeabehdaaEngOpen
import Derived.Test.YtcecnoeeabehdaaMemLaw
set_option linter.all false
namespace Go.Proofs
open Go.Eng
set_option linter.unusedVariables false
theorem Try.opInt {W : World} : Opn Try.prog W 3 (fun n : Int => [.int .i64 n]) (fun n => -9223372036854775808 ≤ n ∧ n ≤ 9223372036854775807) := op_i64 Try.underlying3
theorem Try.opStr {W : World} : Opn Try.prog W 9 (fun s : ByteArray => [.string s]) (fun s => s.size ≤ 9223372036854775807) := op_string Try.underlying9
theorem Try.opDeed {W : World} : Opn Try.prog W 45 deedE.e deedI :=
  (op_struct Try.underlying45 (opF_cons (s := 1) Try.opInt rfl (by kernel_rfl) (opF_cons (s := 1) Try.opInt rfl (by kernel_rfl) (opF_cons (s := 1) Try.opInt rfl (by kernel_rfl) (opF_cons (s := 1) Try.opStr rfl (by kernel_rfl) opF_nil)))) (by kernel_rfl)).map (fun y => (y.1, y.2.1, y.2.2.1, y.2.2.2.1)) (fun _ => rfl) (fun _ h => ⟨h.1, h.2.1, h.2.2.1⟩)
end Go.Proofs
