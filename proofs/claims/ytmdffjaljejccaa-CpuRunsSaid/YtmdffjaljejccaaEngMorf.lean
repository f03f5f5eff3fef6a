/- More rules: calls that leave something of which something is known, over a part wherever it stands. -/
import Derived.Test.YtmdffjaljejccaaEngMore
set_option linter.all false
namespace Go.Eng
set_option linter.unusedVariables false
variable {P : Program} {τ : Tys} {L : List HP}
theorem Cl.exsAt {β : Type} {f : FuncId} {args : List Value} {B : HP} {K : Value → List HP → Prop} {X : List PanicEntry → List HP → Prop} {V : β → Value} {H : β → HP} {R : β → Prop} (i : Nat) (hi : L[i]? = some B)
    (c : ∀ M, Con P f args (B :: M) (Exs V (fun x => H x :: M) R)) (k : ldelK L i fun M => ∀ x, R x → K (V x) (H x :: M)) : Cl P f args L K X := by
  rw [ldelK_eq] at k
  exact Cl.ent (Ent.perm (perm_at L i hi)) (Cl.exs (c _) k)
theorem Cl.exsAt2 {β : Type} {f : FuncId} {args : List Value} {B : HP} {K : Value → List HP → Prop} {X : List PanicEntry → List HP → Prop} {V : β → Value} {H G : β → HP} {R : β → Prop} (i : Nat) (hi : L[i]? = some B)
    (c : ∀ M, Con P f args (B :: M) (Exs V (fun x => H x :: G x :: M) R)) (k : ldelK L i fun M => ∀ x, R x → K (V x) (H x :: G x :: M)) : Cl P f args L K X := by
  rw [ldelK_eq] at k
  exact Cl.ent (Ent.perm (perm_at L i hi)) (Cl.exs (c _) k)
theorem CD.isAt {f : FuncId} {args : List Value} {B : HP} {K : Value → Prop} {v : Value} (i : Nat) (hi : L[i]? = some B) (c : ∀ M, Con P f args (B :: M) (Is v (B :: M))) (k : K v) : CD P f args L K :=
  CD.is (fun M => Con.isAt (((perm_at L i hi).append_left M).trans List.perm_middle) (c (M ++ L.eraseIdx i))) k
/-- a row of one's own, out of a row that was just laid -/
theorem FEnt.lit {α : Type} {E : Enc α} {t : TypeId} {b c : Nat} {cs : List Value} {xs : List α} {L M : List HP} (i : Nat) (hi : L[i]? = some (ptc b t cs)) (hx : cs = E.flat xs) (hl : c = xs.length) (hm : Nat.ble xs.length maxLen = true) (h : FEnt (L.eraseIdx i) M) :
    FEnt L (own E t (some ⟨b, 0, none⟩) c xs :: M) := fun K w s => by
  subst hl
  have s1 := FEnt.at i hi h K w s
  exact (Ent.own (E := E) (L := K ++ M) xs hx (Nat.le_of_ble_eq_true hm) w (s1.perm List.perm_middle)).perm List.perm_middle.symm
/-- append to a row that was just laid -/
theorem Sm.appLit {α : Type} {E : Enc α} {ys : List α} (hτ : TysOk P τ) {st et ty : TypeId} {si ei : TyI} {n c m c' b : Nat} {a' : Option Addr} {cs : List Value} {K : Value → List HP → Prop} (i : Nat) (hi : L[i]? = some (Eng.ptc b et cs)) (xs : List α) (hx : cs = E.flat xs) (hm : m = ys.length)
    (hr : Rd E L a' ys) (hs : τ[st]? = some (some si)) (hsd : si.d = .slice et) (he : τ[et]? = some (some ei)) (hz : ei.size = E.sz) (hn : n = xs.length) (hc : c = xs.length) (hxl : Nat.ble xs.length 1000000 = true)
    (hby : Nat.ble ei.bytes 4096 = true) (hmax : ys.length ≤ 34358000000)
    (k : ∀ a2 c2, (xs ++ ys).length ≤ c2 → Ad a2 (xs ++ ys).length → ldelK L i fun M => K (.slice a2 (xs ++ ys).length c2) (own E et a2 c2 (xs ++ ys) :: M)) :
    Sm P (Builtin.append_ #[st, st] ty #[.slice (some ⟨b, 0, none⟩) n c, .slice a' m c']) L K := by
  subst hc
  have hby := Nat.le_of_ble_eq_true hby
  have hxl := Nat.le_of_ble_eq_true hxl
  refine Sm.app (E := E) (xs := xs) (M := L.eraseIdx i) hτ (fun w s => Ent.own xs hx (Nat.le_trans hxl (by decide)) w (s.perm (perm_at L i hi))) hr hs hsd he hz hn hm (by omega) ?_ (fun a2 c2 h1 h2 => ?_)
  · exact Nat.le_trans (Nat.mul_le_mul (show xs.length + ys.length ≤ 34359738368 by omega) hby) (by decide)
  · have := k a2 c2 h1 h2
    rwa [ldelK_eq] at this
end Go.Eng
