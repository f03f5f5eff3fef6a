/- More rules: the parts that a call needs are brought ahead. -/
import Derived.Test.YtmkfnpccaipjcaaEngMorf
set_option linter.all false
namespace Go.Eng
set_option linter.unusedVariables false
variable {P : Program} {τ : Tys} {L : List HP}
theorem Cl.pre {f : FuncId} {args : List Value} {K : Value → List HP → Prop} {X : List PanicEntry → List HP → Prop} {M : List HP} (As : List HP) (h : FEnt L (As ++ M)) (c : Cl P f args (As ++ M) K X) : Cl P f args L K X := Cl.ent h.ent c
theorem CD.isAt2 {f : FuncId} {args : List Value} {B C : HP} {K : Value → Prop} {v : Value} (i j : Nat) (hi : L[i]? = some B) (hj : (L.eraseIdx i)[j]? = some C) (c : ∀ M, Con P f args (B :: C :: M) (Is v (B :: C :: M))) (k : K v) : CD P f args L K :=
  CD.is (fun M => Con.isAt (M := B :: C :: (M ++ (L.eraseIdx i).eraseIdx j)) (((perm_at2 i j hi hj).append_left M).trans (List.perm_middle.trans (List.perm_middle.cons B))) (c _)) k
end Go.Eng
