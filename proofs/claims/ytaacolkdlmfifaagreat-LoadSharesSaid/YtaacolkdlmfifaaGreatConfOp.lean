/- Tables as arguments. -/
import Derived.Test.YtaacolkdlmfifaaGreatSlotOp
import Derived.Test.YtaacolkdlmfifaaGreatConf
set_option linter.all false
namespace Go.Proofs
open Go.Eng
set_option linter.unusedVariables false
theorem Tryz.opWin {W : World} : Opn Tryz.prog W 57 slE.e slB :=
  (op_struct Tryz.underlying57 (opF_cons (s := 1) Tryz.opInt rfl (by kernel_rfl) (opF_cons (s := 1) Tryz.opInt rfl (by kernel_rfl) (opF_cons (s := 1) Tryz.opInt rfl (by kernel_rfl) opF_nil))) (by kernel_rfl)).map (fun y => (y.1, y.2.1, y.2.2.1)) (fun _ => rfl) (fun _ h => ⟨h.1, h.2.1, h.2.2.1⟩)
theorem Tryz.opCli {W : World} : Opn Tryz.prog W 47 clE.e ClB :=
  (op_struct Tryz.underlying47 (opF_cons (s := 1) Tryz.opInt rfl (by kernel_rfl) (opF_cons (s := 1) Tryz.opInt rfl (by kernel_rfl) (opF_cons (s := 1) Tryz.opInt rfl (by kernel_rfl) (opF_cons (s := 1) Tryz.opInt rfl (by kernel_rfl) (opF_cons (s := 1) Tryz.opInt rfl (by kernel_rfl) (opF_cons (s := 1) Tryz.opInt rfl (by kernel_rfl) (opF_cons (s := 1) Tryz.opInt rfl (by kernel_rfl) (opF_cons (s := 1) Tryz.opInt rfl (by kernel_rfl) (opF_cons (s := 1) Tryz.opInt rfl (by kernel_rfl) (opF_cons (s := 1) Tryz.opInt rfl (by kernel_rfl) opF_nil)))))))))) (by kernel_rfl)).map
    (fun y => (⟨y.1, y.2.1, y.2.2.1, y.2.2.2.1, y.2.2.2.2.1, y.2.2.2.2.2.1, y.2.2.2.2.2.2.1, y.2.2.2.2.2.2.2.1, y.2.2.2.2.2.2.2.2.1, y.2.2.2.2.2.2.2.2.2.1⟩ : Cli)) (fun _ => rfl) (fun _ h => ⟨h.1, h.2.1, h.2.2.1, h.2.2.2.1, h.2.2.2.2.1, h.2.2.2.2.2.1, h.2.2.2.2.2.2.1, h.2.2.2.2.2.2.2.1, h.2.2.2.2.2.2.2.2.1, h.2.2.2.2.2.2.2.2.2.1⟩)
theorem Tryz.opCfg {W : World} : Opn Tryz.prog W 26 cfC (fun C => CfB C ∧ Rd slE [old W] C.wa C.ws ∧ Rd slE [old W] C.sa C.ss ∧ Rd clE [old W] C.ca C.xs) :=
  (op_struct Tryz.underlying26 (opF_cons (s := 1) Tryz.opInt rfl (by kernel_rfl) (opF_cons (s := 1) (op_slice (E := slE) Tryz.underlying22 Tryz.opWin (by kernel_rfl)) rfl (by kernel_rfl) (opF_cons (s := 1) (op_slice (E := slE) Tryz.underlying23 Tryz.opSlt (by kernel_rfl)) rfl (by kernel_rfl) (opF_cons (s := 1) (op_slice (E := clE) Tryz.underlying24 Tryz.opCli (by kernel_rfl)) rfl (by kernel_rfl) opF_nil)))) (by kernel_rfl)).map
    (fun y => (⟨y.1, y.2.1.1, y.2.1.2.1, y.2.1.2.2, y.2.2.1.1, y.2.2.1.2.1, y.2.2.1.2.2, y.2.2.2.1.1, y.2.2.2.1.2.1, y.2.2.2.1.2.2⟩ : Cfg)) (fun _ => rfl)
    (fun _ ⟨hF, ⟨w1, w2, w3, w4⟩, ⟨s1, s2, s3, s4⟩, ⟨c1, c2, c3, c4⟩, _⟩ => ⟨⟨hF, w4, s4, c4, w1, s1, c1⟩, w3, s3, c3⟩)
end Go.Proofs
