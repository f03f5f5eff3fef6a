/- strings.Cut, strings.Split: contracts. -/
import Derived.Test.YtloaknocdnpedaaDoorLib
set_option linter.all false
namespace Go.Proofs
open Go.Eng Go.Shelf Go.RowKit
set_option linter.unusedVariables false
set_option maxRecDepth 100000
/-- the library's own variable holds some number -/
def Tryd.Mx (L : List HP) : Prop := ∀ w, Sat w L → ∃ m : Int, w.cell? ⟨0, 0, none⟩ = some (.int .i64 m)
theorem Tryd.mxCons {A : HP} {L : List HP} (h : Tryd.Mx L) : Tryd.Mx (A :: L) := fun w s => h w s.tail
theorem Tryd.mxApp {L M : List HP} (h : Tryd.Mx L) : Tryd.Mx (M ++ L) := fun w s => h w s.right
theorem Tryd.splitS (s sep : ByteArray) (L : List HP) (hs : s.size < 4294967281) (h1 : 1 ≤ sep.size) (hM : Tryd.Mx L) :
    Con Tryd.prog 44 [.string s, .string sep] L (New strE 9 (Lib.splitB sep 0 (Lib.countB s sep) s) L) := by
  have hl := Lib.splitB_all sep h1 0 _ s rfl
  have hc := Lib.countB_le sep h1 _ s (Nat.le_refl _)
  refine Con.row (n := Lib.countB s sep + 1) ⟨_, Tryd.func44, by kernel_rfl, by kernel_rfl⟩ hl.symm (by omega) fun w s0 => ?_
  obtain ⟨m, hm⟩ := hM w s0
  refine (Tryd.strings_Split s sep m w hs hm h1).mono fun e w' h => ?_
  rw [flat_str]
  exact h
end Go.Proofs
