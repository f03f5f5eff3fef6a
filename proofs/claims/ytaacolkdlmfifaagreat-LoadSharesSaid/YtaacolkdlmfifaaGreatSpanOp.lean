/- Spans as arguments. -/
import Derived.Test.YtaacolkdlmfifaaGreatEngOpen
import Derived.Test.YtaacolkdlmfifaaGreatSpan
set_option linter.all false
namespace Go.Proofs
open Go.Eng
set_option linter.unusedVariables false
theorem Tryz.opInt {W : World} : Opn Tryz.prog W 3 (fun n : Int => [.int .i64 n]) (fun n => -9223372036854775808 ≤ n ∧ n ≤ 9223372036854775807) := op_i64 Tryz.underlying3
theorem Tryz.opSpan {W : World} : Opn Tryz.prog W 65 spE.e (fun z => (-9223372036854775808 ≤ z.1 ∧ z.1 ≤ 9223372036854775807) ∧ (-9223372036854775808 ≤ z.2 ∧ z.2 ≤ 9223372036854775807) ∧ True) :=
  (op_struct Tryz.underlying65 (opF_cons (s := 1) Tryz.opInt rfl (by kernel_rfl) (opF_cons (s := 1) Tryz.opInt rfl (by kernel_rfl) opF_nil)) (by kernel_rfl)).map (fun y => (y.1, y.2.1)) (fun _ => rfl) (fun _ h => h)
end Go.Proofs
