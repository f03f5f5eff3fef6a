/- Rows and bursts as arguments. -/
import Derived.Test.YtpdgkadpffnmpaaEngOpen
import Derived.Test.YtpdgkadpffnmpaaDmaD
set_option linter.all false
namespace Go.Proofs
open Go.Eng
set_option linter.unusedVariables false
theorem Try.opInt {W : World} : Opn Try.prog W 3 (fun n : Int => [.int .i64 n]) (fun n => -9223372036854775808 ≤ n ∧ n ≤ 9223372036854775807) := op_i64 Try.underlying3
theorem Try.opBool {W : World} : Opn Try.prog W 4 (fun b : Bool => [.bool b]) (fun _ => True) := op_bool Try.underlying4
theorem Try.opStr {W : World} : Opn Try.prog W 9 (fun s : ByteArray => [.string s]) (fun s => s.size ≤ 9223372036854775807) := op_string Try.underlying9
theorem Try.opRg {W : World} : Opn Try.prog W 62 rgE.e rgB :=
  (op_struct Try.underlying62 (opF_cons (s := 1) Try.opInt rfl (by kernel_rfl) (opF_cons (s := 1) Try.opInt rfl (by kernel_rfl) (opF_cons (s := 1) Try.opInt rfl (by kernel_rfl) opF_nil))) (by kernel_rfl)).map (fun y => (y.1, y.2.1, y.2.2.1)) (fun _ => rfl) (fun _ h => ⟨h.1, h.2.1, h.2.2.1⟩)
theorem Try.opBd {W : World} : Opn Try.prog W 39 (fun d : Bd => [i64V d.1, i64V d.2.1, i64V d.2.2.1, i64V d.2.2.2.1, .bool d.2.2.2.2.1, .string d.2.2.2.2.2]) (fun d => bdI d ∧ d.2.2.2.2.2.size ≤ 9223372036854775807) :=
  (op_struct Try.underlying39 (opF_cons (s := 1) Try.opInt rfl (by kernel_rfl) (opF_cons (s := 1) Try.opInt rfl (by kernel_rfl) (opF_cons (s := 1) Try.opInt rfl (by kernel_rfl) (opF_cons (s := 1) Try.opInt rfl (by kernel_rfl) (opF_cons (s := 1) Try.opBool rfl (by kernel_rfl) (opF_cons (s := 1) Try.opStr rfl (by kernel_rfl) opF_nil)))))) (by kernel_rfl)).map (fun y => (y.1, y.2.1, y.2.2.1, y.2.2.2.1, y.2.2.2.2.1, y.2.2.2.2.2.1)) (fun _ => rfl) (fun _ h => ⟨⟨h.1, h.2.1, h.2.2.1, h.2.2.2.1⟩, h.2.2.2.2.2.1⟩)
theorem Try.opBdS {W : World} : Opn Try.prog W 39 bdE.e bdI := Try.opBd.map id (fun _ => rfl) (fun _ h => h.1)
end Go.Proofs
