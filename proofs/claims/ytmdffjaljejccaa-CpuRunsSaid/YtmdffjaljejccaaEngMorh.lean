/- More rules: a loop whose end is cut off: what follows it is walked once. -/
import Derived.Test.YtmdffjaljejccaaEngMorf
set_option linter.all false
namespace Go.Eng
set_option linter.unusedVariables false
variable {P : Program} {τ : Tys} {D : List Deferred}
def exitP (id : Nat) (N : Env → List HP → Prop) (Q : Post) : Post := fun e l L =>
  match e with
  | .normal => Q .normal l L
  | .exit i => bif Nat.beq i id then N l L else Q (.exit i) l L
  | .goto i => Q (.goto i) l L
  | .ret => Q .ret l L
  | .panic ch => Q (.panic ch) l L
  | .outgrown => Q .outgrown l L
theorem Lp.cutN {c : Code} {ws : List Nat} {Q : Post} {l : Env} {L : List HP} (hτ : TysOk P τ) {A : Type} (id : Nat) (live : List Nat) (vs : A → List Value) (Ls : A → List HP) (I J : A → Prop) (μ : A → Nat) (a0 : A) (N : A → Env → List HP → Prop) (E : Env → List HP → Prop)
    (hN : ∀ a l' L', N a l' L' → Next vs Ls I μ l live (minusN ws live) a l' L')
    (hE : ∀ l' L', E l' L' → ∃ a, l' = puts (puts l live (vs a)) (minusN ws live) (gets l' (minusN ws live)) ∧ Ent L' (Ls a) ∧ J a)
    (h0 : l = puts l live (vs a0)) (hL : Ent L (Ls a0)) (hI : I a0)
    (round : ∀ a, I a → allN (minusN ws live).length fun ds => putsK l live (vs a) fun l1 => putsK l1 (minusN ws live) ds fun l2 =>
      wpC P τ D c (thenP (fun l' L' => N a l' L') (exitP id E Q)) l2 (Ls a))
    (after : ∀ a, J a → allN (minusN ws live).length fun ds => putsK l live (vs a) fun l1 => putsK l1 (minusN ws live) ds fun l2 => Q (.exit id) l2 (Ls a)) : Lp P D c ws Q l L := by
  have hp : Lp P D c ws (exitP id E Q) l L := Lp.byN hτ live vs Ls I μ a0 N hN h0 hL hI round
  refine ⟨fun w s => wp_mono (hp.go w s) ?_⟩
  rintro e a w' ⟨l', L', rfl, s', hq⟩
  cases e with
  | exit i =>
    simp only [exitP, cond_eq_ite] at hq
    split at hq
    · rename_i he
      have he := Nat.eq_of_beq_eq_true he
      subst he
      obtain ⟨x, hx, hent, hJ⟩ := hE _ _ hq
      have h := allN_spec (after x hJ) (gets l' (minusN ws live)) (gets_len _ _)
      rw [putsK_eq, putsK_eq, ← hx] at h
      exact ⟨l', _, rfl, hent _ s', h⟩
    · exact ⟨l', L', rfl, s', hq⟩
  | normal => exact ⟨l', L', rfl, s', hq⟩
  | goto i => exact ⟨l', L', rfl, s', hq⟩
  | ret => exact ⟨l', L', rfl, s', hq⟩
  | panic ch => exact ⟨l', L', rfl, s', hq⟩
  | outgrown => exact ⟨l', L', rfl, s', hq⟩
structure Done {A : Type} (vs : A → List Value) (Ls : A → List HP) (J : A → Prop) (l0 : Env) (live dead : List Nat) (l' : Env) (L' : List HP) : Prop where
  go : ∃ a, l' = puts (puts l0 live (vs a)) dead (gets l' dead) ∧ Ent L' (Ls a) ∧ J a
theorem Lp.cut {c : Code} {ws : List Nat} {Q : Post} {l : Env} {L : List HP} (hτ : TysOk P τ) {A : Type} (id : Nat) (live : List Nat) (vs : A → List Value) (Ls : A → List HP) (I J : A → Prop) (μ : A → Nat) (a0 : A)
    (h0 : l = puts l live (vs a0)) (hL : Ent L (Ls a0)) (hI : I a0)
    (round : ∀ a, I a → allN (minusN ws live).length fun ds => putsK l live (vs a) fun l1 => putsK l1 (minusN ws live) ds fun l2 =>
      wpC P τ D c (thenP (fun l' L' => Next vs Ls I μ l live (minusN ws live) a l' L') (exitP id (fun l' L' => Done vs Ls J l live (minusN ws live) l' L') Q)) l2 (Ls a))
    (after : ∀ a, J a → allN (minusN ws live).length fun ds => putsK l live (vs a) fun l1 => putsK l1 (minusN ws live) ds fun l2 => Q (.exit id) l2 (Ls a)) : Lp P D c ws Q l L :=
  Lp.cutN hτ id live vs Ls I J μ a0 _ (fun l' L' => Done vs Ls J l live (minusN ws live) l' L') (fun _ _ _ h => h) (fun _ _ h => h.go) h0 hL hI round after
structure Done2 {A B : Type} (vs : A → B → List Value) (Ls : A → B → List HP) (J : A → B → Prop) (l0 : Env) (live dead : List Nat) (l' : Env) (L' : List HP) : Prop where
  go : ∃ a b, l' = puts (puts l0 live (vs a b)) dead (gets l' dead) ∧ Ent L' (Ls a b) ∧ J a b
theorem Lp.cut2 {c : Code} {ws : List Nat} {Q : Post} {l : Env} {L : List HP} (hτ : TysOk P τ) {A B : Type} (id : Nat) (live : List Nat) (vs : A → B → List Value) (Ls : A → B → List HP) (I J : A → B → Prop) (μ : A → B → Nat) (a0 : A) (b0 : B)
    (h0 : l = puts l live (vs a0 b0)) (hL : Ent L (Ls a0 b0)) (hI : I a0 b0)
    (round : ∀ a b, I a b → allN (minusN ws live).length fun ds => putsK l live (vs a b) fun l1 => putsK l1 (minusN ws live) ds fun l2 =>
      wpC P τ D c (thenP (fun l' L' => Next2 vs Ls I μ l live (minusN ws live) a b l' L') (exitP id (fun l' L' => Done2 vs Ls J l live (minusN ws live) l' L') Q)) l2 (Ls a b))
    (after : ∀ a b, J a b → allN (minusN ws live).length fun ds => putsK l live (vs a b) fun l1 => putsK l1 (minusN ws live) ds fun l2 => Q (.exit id) l2 (Ls a b)) : Lp P D c ws Q l L :=
  Lp.cutN hτ id live (fun s : A × B => vs s.1 s.2) (fun s => Ls s.1 s.2) (fun s => I s.1 s.2) (fun s => J s.1 s.2) (fun s => μ s.1 s.2) (a0, b0) (fun s l' L' => Next2 vs Ls I μ l live (minusN ws live) s.1 s.2 l' L') (fun l' L' => Done2 vs Ls J l live (minusN ws live) l' L')
    (fun s l' L' ⟨a1, b1, h1, h2, h3, h4⟩ => ⟨(a1, b1), h1, h2, h3, h4⟩) (fun l' L' ⟨a1, b1, h1, h2, h3⟩ => ⟨(a1, b1), h1, h2, h3⟩) h0 hL hI (fun s hI => round s.1 s.2 hI) (fun s hJ => after s.1 s.2 hJ)
structure Done3 {A B C : Type} (vs : A → B → C → List Value) (Ls : A → B → C → List HP) (J : A → B → C → Prop) (l0 : Env) (live dead : List Nat) (l' : Env) (L' : List HP) : Prop where
  go : ∃ a b c, l' = puts (puts l0 live (vs a b c)) dead (gets l' dead) ∧ Ent L' (Ls a b c) ∧ J a b c
theorem Lp.cut3 {c : Code} {ws : List Nat} {Q : Post} {l : Env} {L : List HP} (hτ : TysOk P τ) {A B C : Type} (id : Nat) (live : List Nat) (vs : A → B → C → List Value) (Ls : A → B → C → List HP) (I J : A → B → C → Prop) (μ : A → B → C → Nat) (a0 : A) (b0 : B) (c0 : C)
    (h0 : l = puts l live (vs a0 b0 c0)) (hL : Ent L (Ls a0 b0 c0)) (hI : I a0 b0 c0)
    (round : ∀ a b c', I a b c' → allN (minusN ws live).length fun ds => putsK l live (vs a b c') fun l1 => putsK l1 (minusN ws live) ds fun l2 =>
      wpC P τ D c (thenP (fun l' L' => Next3 vs Ls I μ l live (minusN ws live) a b c' l' L') (exitP id (fun l' L' => Done3 vs Ls J l live (minusN ws live) l' L') Q)) l2 (Ls a b c'))
    (after : ∀ a b c', J a b c' → allN (minusN ws live).length fun ds => putsK l live (vs a b c') fun l1 => putsK l1 (minusN ws live) ds fun l2 => Q (.exit id) l2 (Ls a b c')) : Lp P D c ws Q l L :=
  Lp.cutN hτ id live (fun s : A × B × C => vs s.1 s.2.1 s.2.2) (fun s => Ls s.1 s.2.1 s.2.2) (fun s => I s.1 s.2.1 s.2.2) (fun s => J s.1 s.2.1 s.2.2) (fun s => μ s.1 s.2.1 s.2.2) (a0, b0, c0) (fun s l' L' => Next3 vs Ls I μ l live (minusN ws live) s.1 s.2.1 s.2.2 l' L') (fun l' L' => Done3 vs Ls J l live (minusN ws live) l' L')
    (fun s l' L' ⟨a1, b1, c1, h1, h2, h3, h4⟩ => ⟨(a1, b1, c1), h1, h2, h3, h4⟩) (fun l' L' ⟨a1, b1, c1, h1, h2, h3⟩ => ⟨(a1, b1, c1), h1, h2, h3⟩) h0 hL hI (fun s hI => round s.1 s.2.1 s.2.2 hI) (fun s hJ => after s.1 s.2.1 s.2.2 hJ)
end Go.Eng
