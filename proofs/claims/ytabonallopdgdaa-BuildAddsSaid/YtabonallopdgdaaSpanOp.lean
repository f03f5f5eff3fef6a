/- Spans as arguments. -/
import Derived.Test.YtabonallopdgdaaEngOpen
import Derived.Test.YtabonallopdgdaaSpan
set_option linter.all false
namespace Go.Proofs
open Go.Eng
set_option linter.unusedVariables false
theorem Try.opInt {W : World} : Opn Try.prog W 3 (fun n : Int => [.int .i64 n]) (fun n => -9223372036854775808 ≤ n ∧ n ≤ 9223372036854775807) := op_i64 Try.underlying3
theorem Try.opSpan {W : World} : Opn Try.prog W 60 spE.e (fun z => (-9223372036854775808 ≤ z.1 ∧ z.1 ≤ 9223372036854775807) ∧ (-9223372036854775808 ≤ z.2 ∧ z.2 ≤ 9223372036854775807) ∧ True) :=
  (op_struct Try.underlying60 (opF_cons (s := 1) Try.opInt rfl (by kernel_rfl) (opF_cons (s := 1) Try.opInt rfl (by kernel_rfl) opF_nil)) (by kernel_rfl)).map (fun y => (y.1, y.2.1)) (fun _ => rfl) (fun _ h => h)
end Go.Proofs
