/- Slots as arguments. -/
import Derived.Test.YtabonallopdgdaaSpanOp
import Derived.Test.YtabonallopdgdaaSlot
set_option linter.all false
namespace Go.Proofs
open Go.Eng
set_option linter.unusedVariables false
theorem Try.opSlt {W : World} : Opn Try.prog W 67 slE.e slB :=
  (op_struct Try.underlying67 (opF_cons (s := 1) Try.opInt rfl (by kernel_rfl) (opF_cons (s := 1) Try.opInt rfl (by kernel_rfl) (opF_cons (s := 1) Try.opInt rfl (by kernel_rfl) opF_nil))) (by kernel_rfl)).map (fun y => (y.1, y.2.1, y.2.2.1)) (fun _ => rfl) (fun _ h => ⟨h.1, h.2.1, h.2.2.1⟩)
end Go.Proofs
