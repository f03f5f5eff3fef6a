/- Wishes as arguments. -/
import Derived.Test.YtabonallopdgdaaConfOp
import Derived.Test.YtabonallopdgdaaBuild
set_option linter.all false
namespace Go.Proofs
open Go.Eng
set_option linter.unusedVariables false
theorem Try.opWish {W : World} : Opn Try.prog W 27 wsE.e (fun _ => True) :=
  (op_struct Try.underlying27 (opF_cons (s := 1) Try.opInt rfl (by kernel_rfl) (opF_cons (s := 1) Try.opInt rfl (by kernel_rfl) (opF_cons (s := 1) Try.opInt rfl (by kernel_rfl) (opF_cons (s := 1) Try.opInt rfl (by kernel_rfl) (opF_cons (s := 1) Try.opInt rfl (by kernel_rfl) (opF_cons (s := 1) Try.opInt rfl (by kernel_rfl) opF_nil)))))) (by kernel_rfl)).map
    (fun y => (⟨y.1, y.2.1, y.2.2.1, y.2.2.2.1, y.2.2.2.2.1, y.2.2.2.2.2.1⟩ : Wsh)) (fun _ => rfl) (fun _ _ => trivial)
end Go.Proofs
