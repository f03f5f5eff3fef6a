/- Instructions as arguments. -/
import Derived.Test.YtjlofcnmehpbaaaDoorEngOpen
import Derived.Test.YtjlofcnmehpbaaaDoorAsmV
set_option linter.all false
namespace Go.Proofs
open Go.Eng
set_option linter.unusedVariables false
theorem Tryd.opInt {W : World} : Opn Tryd.prog W 3 (fun n : Int => [.int .i64 n]) (fun n => -9223372036854775808 ≤ n ∧ n ≤ 9223372036854775807) := op_i64 Tryd.underlying3
theorem Tryd.opCode {W : World} : Opn Tryd.prog W 41 (fun n : Int => [.int .u8 n]) (fun n => 0 ≤ n ∧ n ≤ 255) := op_u8 Tryd.underlying41
theorem Tryd.opIns {W : World} : Opn Tryd.prog W 43 inE.e (fun y => 0 ≤ y.1 ∧ y.1 ≤ 255) :=
  (op_struct Tryd.underlying43 (opF_cons (s := 1) Tryd.opCode rfl (by kernel_rfl) (opF_cons (s := 1) Tryd.opInt rfl (by kernel_rfl) (opF_cons (s := 1) Tryd.opInt rfl (by kernel_rfl) opF_nil))) (by kernel_rfl)).map
    (fun y => (y.1, y.2.1, y.2.2.1)) (fun _ => rfl) (fun _ h => h.1)
end Go.Proofs
