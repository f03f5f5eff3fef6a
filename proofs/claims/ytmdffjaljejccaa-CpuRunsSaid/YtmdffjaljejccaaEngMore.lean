/- More rules: calls over two parts, wherever they stand. -/
import Derived.Test.YtmdffjaljejccaaEngReg
import Derived.Test.YtmdffjaljejccaaEngSelf
set_option linter.all false
namespace Go.Eng
set_option linter.unusedVariables false
variable {P : Program} {τ : Tys} {L : List HP}
theorem Cl.isAt2 {f : FuncId} {args : List Value} {A B A' B' : HP} {K : Value → List HP → Prop} {X : List PanicEntry → List HP → Prop} {v : Value} (i j : Nat) (hi : L[i]? = some A) (hj : (L.eraseIdx i)[j]? = some B)
    (c : Con P f args (A :: B :: (L.eraseIdx i).eraseIdx j) (Is v (A' :: B' :: (L.eraseIdx i).eraseIdx j))) (k : ldelK L i fun M => ldelK M j fun R => K v (A' :: B' :: R)) : Cl P f args L K X := by
  rw [ldelK_eq, ldelK_eq] at k
  refine Cl.is ⟨c.ent, fun w s => (c.run w (s.perm (perm_at2 i j hi hj))).mono fun e w' => ?_⟩ k
  cases e with
  | returned v' => rintro ⟨L', s', r⟩; exact ⟨_, r.l _ s', ⟨r.v, Ent.rfl⟩⟩
  | panicked ch => rintro ⟨L', s', r⟩; exact r.elim
  | outgrown => exact id
variable {D : List Deferred}
/-- a label that is reached, with five things that change -/
structure Jump5 {A B C D' E' : Type} (vs : A → B → C → D' → E' → List Value) (Ls : A → B → C → D' → E' → List HP) (I : A → B → C → D' → E' → Prop) (l0 : Env) (live dead : List Nat) (l' : Env) (L' : List HP) : Prop where
  go : ∃ a b c d e, l' = puts (puts l0 live (vs a b c d e)) dead (gets l' dead) ∧ Ent L' (Ls a b c d e) ∧ I a b c d e
structure Again5 {A B C D' E' : Type} (vs : A → B → C → D' → E' → List Value) (Ls : A → B → C → D' → E' → List HP) (I : A → B → C → D' → E' → Prop) (μ : A → B → C → D' → E' → Nat) (m : Nat) (l0 : Env) (live dead : List Nat) (l' : Env) (L' : List HP) : Prop where
  go : ∃ a b c d e, l' = puts (puts l0 live (vs a b c d e)) dead (gets l' dead) ∧ Ent L' (Ls a b c d e) ∧ I a b c d e ∧ μ a b c d e < m
theorem Sc.by5 {c rest : Code} {ws : List Nat} {Q : Post} {l : Env} {L : List HP} (hτ : TysOk P τ) (lab : Nat) (hf : findLabel c lab = some rest) {A B C D' E' : Type} (live : List Nat) (vs : A → B → C → D' → E' → List Value) (Ls : A → B → C → D' → E' → List HP) (I : A → B → C → D' → E' → Prop) (μ : A → B → C → D' → E' → Nat)
    (first : wpC P τ D c (jumpP lab (fun l' L' => Jump5 vs Ls I l live (minusN ws live) l' L') Q) l L)
    (pass : ∀ a b c' d e, I a b c' d e → allN (minusN ws live).length fun ds => putsK l live (vs a b c' d e) fun l1 => putsK l1 (minusN ws live) ds fun l2 =>
      wpC P τ D rest (jumpP lab (fun l' L' => Again5 vs Ls I μ (μ a b c' d e) l live (minusN ws live) l' L') Q) l2 (Ls a b c' d e)) : Sc P D c ws Q l L := by
  refine ⟨fun w s => ?_⟩
  refine wp_scope_m lab (fun n a w => ∃ (x : A × B × C × D' × E') (l' : Env), a = ⟨l'.toArray, D⟩ ∧ l' = puts (puts l live (vs x.1 x.2.1 x.2.2.1 x.2.2.2.1 x.2.2.2.2)) (minusN ws live) (gets l' (minusN ws live)) ∧ Sat w (Ls x.1 x.2.1 x.2.2.1 x.2.2.2.1 x.2.2.2.2) ∧ I x.1 x.2.1 x.2.2.1 x.2.2.2.1 x.2.2.2.2 ∧ μ x.1 x.2.1 x.2.2.1 x.2.2.2.1 x.2.2.2.2 = n) hf ?_ ?_
  · refine wp_mono (wpC_sound hτ c _ _ _ first w s) fun e a' w' hq => ?_
    have := lift_jump hq
    cases e with
    | goto i =>
      obtain ⟨rfl, l2, L2, rfl, s2, ⟨a2, b2, c2, d2, e2, h1, h2, h3⟩⟩ := this
      exact ⟨rfl, μ a2 b2 c2 d2 e2, (a2, b2, c2, d2, e2), l2, rfl, h1, h2 _ s2, h3, rfl⟩
    | _ => exact this
  · rintro n a w ⟨x, l', rfl, hl, s, hI, rfl⟩
    have h := allN_spec (pass _ _ _ _ _ hI) (gets l' (minusN ws live)) (gets_len _ _)
    rw [putsK_eq, putsK_eq, ← hl] at h
    refine wp_mono (wpC_sound hτ rest _ _ _ h w s) fun e a' w' hq => ?_
    have := lift_jump hq
    cases e with
    | goto i =>
      obtain ⟨rfl, l2, L2, rfl, s2, ⟨a2, b2, c2, d2, e2, h1, h2, h3, h4⟩⟩ := this
      exact ⟨rfl, _, h4, (a2, b2, c2, d2, e2), l2, rfl, h1, h2 _ s2, h3, rfl⟩
    | _ => exact this
end Go.Eng
