/- strings.Cut, strings.Split: contracts. -/
import Derived.Test.YtloaknocdnpedaaGreatDoorLib
set_option linter.all false
namespace Go.Proofs
open Go.Eng Go.Shelf Go.RowKit
set_option linter.unusedVariables false
set_option maxRecDepth 100000
/-- the library's own variable holds some number -/
def Tryz.Mx (L : List HP) : Prop := ∀ w, Sat w L → ∃ m : Int, w.cell? ⟨0, 0, none⟩ = some (.int .i64 m)
theorem Tryz.mxCons {A : HP} {L : List HP} (h : Tryz.Mx L) : Tryz.Mx (A :: L) := fun w s => h w s.tail
theorem Tryz.mxApp {L M : List HP} (h : Tryz.Mx L) : Tryz.Mx (M ++ L) := fun w s => h w s.right
end Go.Proofs
