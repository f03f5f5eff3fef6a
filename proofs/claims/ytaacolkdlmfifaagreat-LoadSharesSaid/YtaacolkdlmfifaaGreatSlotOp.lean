/- Slots as arguments. -/
import Derived.Test.YtaacolkdlmfifaaGreatSpanOp
import Derived.Test.YtaacolkdlmfifaaGreatSlot
set_option linter.all false
namespace Go.Proofs
open Go.Eng
set_option linter.unusedVariables false
theorem Tryz.opSlt {W : World} : Opn Tryz.prog W 58 slE.e slB :=
  (op_struct Tryz.underlying58 (opF_cons (s := 1) Tryz.opInt rfl (by kernel_rfl) (opF_cons (s := 1) Tryz.opInt rfl (by kernel_rfl) (opF_cons (s := 1) Tryz.opInt rfl (by kernel_rfl) opF_nil))) (by kernel_rfl)).map (fun y => (y.1, y.2.1, y.2.2.1)) (fun _ => rfl) (fun _ h => ⟨h.1, h.2.1, h.2.2.1⟩)
end Go.Proofs
