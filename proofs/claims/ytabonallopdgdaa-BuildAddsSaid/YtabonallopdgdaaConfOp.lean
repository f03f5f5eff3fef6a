/- Tables as arguments. -/
import Derived.Test.YtabonallopdgdaaSlotOp
import Derived.Test.YtabonallopdgdaaConf
set_option linter.all false
namespace Go.Proofs
open Go.Eng
set_option linter.unusedVariables false
theorem Try.opWin {W : World} : Opn Try.prog W 62 slE.e slB :=
  (op_struct Try.underlying62 (opF_cons (s := 1) Try.opInt rfl (by kernel_rfl) (opF_cons (s := 1) Try.opInt rfl (by kernel_rfl) (opF_cons (s := 1) Try.opInt rfl (by kernel_rfl) opF_nil))) (by kernel_rfl)).map (fun y => (y.1, y.2.1, y.2.2.1)) (fun _ => rfl) (fun _ h => ⟨h.1, h.2.1, h.2.2.1⟩)
theorem Try.opCli {W : World} : Opn Try.prog W 64 clE.e ClB :=
  (op_struct Try.underlying64 (opF_cons (s := 1) Try.opInt rfl (by kernel_rfl) (opF_cons (s := 1) Try.opInt rfl (by kernel_rfl) (opF_cons (s := 1) Try.opInt rfl (by kernel_rfl) (opF_cons (s := 1) Try.opInt rfl (by kernel_rfl) (opF_cons (s := 1) Try.opInt rfl (by kernel_rfl) (opF_cons (s := 1) Try.opInt rfl (by kernel_rfl) (opF_cons (s := 1) Try.opInt rfl (by kernel_rfl) (opF_cons (s := 1) Try.opInt rfl (by kernel_rfl) (opF_cons (s := 1) Try.opInt rfl (by kernel_rfl) (opF_cons (s := 1) Try.opInt rfl (by kernel_rfl) opF_nil)))))))))) (by kernel_rfl)).map
    (fun y => (⟨y.1, y.2.1, y.2.2.1, y.2.2.2.1, y.2.2.2.2.1, y.2.2.2.2.2.1, y.2.2.2.2.2.2.1, y.2.2.2.2.2.2.2.1, y.2.2.2.2.2.2.2.2.1, y.2.2.2.2.2.2.2.2.2.1⟩ : Cli)) (fun _ => rfl) (fun _ h => ⟨h.1, h.2.1, h.2.2.1, h.2.2.2.1, h.2.2.2.2.1, h.2.2.2.2.2.1, h.2.2.2.2.2.2.1, h.2.2.2.2.2.2.2.1, h.2.2.2.2.2.2.2.2.1, h.2.2.2.2.2.2.2.2.2.1⟩)
theorem Try.opCfg {W : World} : Opn Try.prog W 34 cfC (fun C => CfB C ∧ Rd slE [old W] C.wa C.ws ∧ Rd slE [old W] C.sa C.ss ∧ Rd clE [old W] C.ca C.xs) :=
  (op_struct Try.underlying34 (opF_cons (s := 1) Try.opInt rfl (by kernel_rfl) (opF_cons (s := 1) (op_slice (E := slE) Try.underlying30 Try.opWin (by kernel_rfl)) rfl (by kernel_rfl) (opF_cons (s := 1) (op_slice (E := slE) Try.underlying31 Try.opSlt (by kernel_rfl)) rfl (by kernel_rfl) (opF_cons (s := 1) (op_slice (E := clE) Try.underlying32 Try.opCli (by kernel_rfl)) rfl (by kernel_rfl) opF_nil)))) (by kernel_rfl)).map
    (fun y => (⟨y.1, y.2.1.1, y.2.1.2.1, y.2.1.2.2, y.2.2.1.1, y.2.2.1.2.1, y.2.2.1.2.2, y.2.2.2.1.1, y.2.2.2.1.2.1, y.2.2.2.1.2.2⟩ : Cfg)) (fun _ => rfl)
    (fun _ ⟨hF, ⟨w1, w2, w3, w4⟩, ⟨s1, s2, s3, s4⟩, ⟨c1, c2, c3, c4⟩, _⟩ => ⟨⟨hF, w4, s4, c4, w1, s1, c1⟩, w3, s3, c3⟩)
end Go.Proofs
