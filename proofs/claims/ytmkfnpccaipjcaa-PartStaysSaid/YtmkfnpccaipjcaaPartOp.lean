/- What may be told, and deeds, as arguments. -/
import Derived.Test.YtmkfnpccaipjcaaEngOpen
import Derived.Test.YtmkfnpccaipjcaaPartE
set_option linter.all false
namespace Go.Proofs
open Go.Eng
set_option linter.unusedVariables false
theorem Try.opInt {W : World} : Opn Try.prog W 3 (fun n : Int => [.int .i64 n]) (fun n => -9223372036854775808 ≤ n ∧ n ≤ 9223372036854775807) := op_i64 Try.underlying3
theorem Try.opBool {W : World} : Opn Try.prog W 4 (fun b : Bool => [.bool b]) (fun _ => True) := op_bool Try.underlying4
theorem Try.opFacts {W : World} : Opn Try.prog W 23 (fun f : Fct => [i64W f.1, i64W f.2.1, i64W f.2.2.1, i64W f.2.2.2.1, i64W f.2.2.2.2]) fctI :=
  (op_struct Try.underlying23 (opF_cons (s := 1) Try.opInt rfl (by kernel_rfl) (opF_cons (s := 1) Try.opInt rfl (by kernel_rfl) (opF_cons (s := 1) Try.opInt rfl (by kernel_rfl) (opF_cons (s := 1) Try.opInt rfl (by kernel_rfl) (opF_cons (s := 1) Try.opInt rfl (by kernel_rfl) opF_nil))))) (by kernel_rfl)).map (fun y => (y.1, y.2.1, y.2.2.1, y.2.2.2.1, y.2.2.2.2.1)) (fun _ => rfl) (fun _ h => ⟨h.1, h.2.1, h.2.2.1, h.2.2.2.1, h.2.2.2.2.1⟩)
theorem Try.opPDeed {W : World} : Opn Try.prog W 49 pdE.e (fun d => fctI d.2) :=
  (op_struct Try.underlying49 (opF_cons (s := 1) Try.opBool rfl (by kernel_rfl) (opF_cons (s := 5) Try.opFacts rfl (by kernel_rfl) opF_nil)) (by kernel_rfl)).map (fun y => (y.1, y.2.1)) (fun _ => rfl) (fun _ h => h.2.1)
end Go.Proofs
