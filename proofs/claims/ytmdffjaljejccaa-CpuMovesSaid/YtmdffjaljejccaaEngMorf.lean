/- More rules: calls that leave something of which something is known, over a part wherever it stands. -/
import Derived.Test.YtmdffjaljejccaaEngMore
set_option linter.all false
namespace Go.Eng
set_option linter.unusedVariables false
variable {P : Program} {τ : Tys} {L : List HP}
theorem Cl.exsAt {β : Type} {f : FuncId} {args : List Value} {B : HP} {K : Value → List HP → Prop} {X : List PanicEntry → List HP → Prop} {V : β → Value} {H : β → HP} {R : β → Prop} (i : Nat) (hi : L[i]? = some B)
    (c : ∀ M, Con P f args (B :: M) (Exs V (fun x => H x :: M) R)) (k : ldelK L i fun M => ∀ x, R x → K (V x) (H x :: M)) : Cl P f args L K X := by
  rw [ldelK_eq] at k
  exact Cl.ent (Ent.perm (perm_at L i hi)) (Cl.exs (c _) k)
theorem Cl.exsAt2 {β : Type} {f : FuncId} {args : List Value} {B : HP} {K : Value → List HP → Prop} {X : List PanicEntry → List HP → Prop} {V : β → Value} {H G : β → HP} {R : β → Prop} (i : Nat) (hi : L[i]? = some B)
    (c : ∀ M, Con P f args (B :: M) (Exs V (fun x => H x :: G x :: M) R)) (k : ldelK L i fun M => ∀ x, R x → K (V x) (H x :: G x :: M)) : Cl P f args L K X := by
  rw [ldelK_eq] at k
  exact Cl.ent (Ent.perm (perm_at L i hi)) (Cl.exs (c _) k)
theorem CD.isAt {f : FuncId} {args : List Value} {B : HP} {K : Value → Prop} {v : Value} (i : Nat) (hi : L[i]? = some B) (c : ∀ M, Con P f args (B :: M) (Is v (B :: M))) (k : K v) : CD P f args L K :=
  CD.is (fun M => Con.isAt (((perm_at L i hi).append_left M).trans List.perm_middle) (c (M ++ L.eraseIdx i))) k
end Go.Eng
