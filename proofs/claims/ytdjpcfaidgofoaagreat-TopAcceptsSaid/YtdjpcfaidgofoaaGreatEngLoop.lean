/- Loops and labels over assertions. -/
import Derived.Test.YtdjpcfaidgofoaaGreatEngRules
import Derived.ScopeJumps
set_option linter.all false
namespace Go.Eng
set_option linter.unusedVariables false
variable {P : Program} {τ : Tys} {D : List Deferred}

theorem min_of' {p : Nat → Prop} : ∀ n, p n → ∃ m, p m ∧ ∀ k, p k → m ≤ k := by
  intro n
  induction n using Nat.strongRecOn with
  | _ n ih =>
    intro h
    by_cases hx : ∃ m, m < n ∧ p m
    · obtain ⟨m, hm, hp⟩ := hx; exact ih m hm hp
    · exact ⟨n, h, fun k hk => by
        rcases Nat.lt_or_ge k n with hlt | hge
        · exact (hx ⟨k, hlt, hk⟩).elim
        · exact hge⟩

theorem min_of {p : Nat → Prop} (h : ∃ n, p n) : ∃ m, p m ∧ ∀ k, p k → m ≤ k := by
  obtain ⟨n, hn⟩ := h; exact min_of' n hn

/-- a loop, by what holds of environment and assertion at every round's head, under a measure -/
theorem wp_loop_m {c : Code} {Q : Exit → Act → World → Prop} (J : Nat → Act → World → Prop) {n : Nat} {a : Act} {w : World} (h0 : J n a w)
    (round : ∀ n a w, J n a w → c.wp P (Exit.then (fun a' w' => ∃ m, m < n ∧ J m a' w') Q) a w) : (Code.loop c).wp P Q a w := by
  classical
  let μ : Act → World → Nat := fun a w => if h : ∃ n, J n a w then (min_of h).choose else 0
  have hμ : ∀ a w, (∃ n, J n a w) → J (μ a w) a w ∧ ∀ k, J k a w → μ a w ≤ k := fun a w h => by
    have : μ a w = (min_of h).choose := dif_pos h
    rw [this]
    exact (min_of h).choose_spec
  refine wp_loop (fun a w => ∃ n, J n a w) μ ⟨n, h0⟩ fun a w hI => ?_
  refine wp_mono (round _ a w (hμ a w hI).1) fun e a' w' hq => ?_
  cases e with
  | normal =>
    obtain ⟨m, hm, hJ⟩ := hq
    exact ⟨⟨m, hJ⟩, Nat.lt_of_le_of_lt ((hμ a' w' ⟨m, hJ⟩).2 m hJ) hm⟩
  | _ => exact hq

def puts (l : Env) : List Nat → List Value → Env
  | i :: is, v :: vs => puts (l.set i v) is vs
  | _, _ => l
def gets (l : Env) : List Nat → List Value
  | [] => []
  | i :: is => l.getD i undef :: gets l is
theorem gets_len (l : Env) : ∀ is, (gets l is).length = is.length
  | [] => rfl
  | _ :: is => by simp [gets, gets_len l is]
theorem puts_gets (l : Env) : ∀ is, puts l is (gets l is) = l
  | [] => rfl
  | i :: is => by
    simp only [gets, puts]
    have : l.set i (l.getD i undef) = l := by
      by_cases h : i < l.length
      · have e : l.getD i undef = l[i] := by simp [List.getD, h]
        rw [e]; exact List.set_getElem_self h
      · exact List.set_eq_of_length_le (by omega)
    rw [this]
    exact puts_gets l is
/-- those that are not live -/
def minusN : List Nat → List Nat → List Nat
  | [], _ => []
  | n :: ns, live => bif memN n live then minusN ns live else n :: minusN ns live
def allN : Nat → (List Value → Prop) → Prop
  | 0, k => k []
  | n + 1, k => ∀ v, allN n fun vs => k (v :: vs)
theorem allN_spec : ∀ {n : Nat} {k : List Value → Prop}, allN n k → ∀ vs : List Value, vs.length = n → k vs
  | 0, k, h, vs, hl => by rw [List.length_eq_zero_iff] at hl; subst hl; exact h
  | n + 1, k, h, v :: vs, hl => allN_spec (h v) vs (by simpa using hl)
/-- puts, reckoned strictly -/
def putsK (l : Env) : List Nat → List Value → (Env → Prop) → Prop
  | i :: is, v :: vs, k => setK l i v fun l' => putsK l' is vs k
  | _, _, k => k l
theorem putsK_eq : ∀ (is : List Nat) (vs : List Value) (l : Env) (k : Env → Prop), putsK l is vs k = k (puts l is vs)
  | [], _, _, _ => by simp [putsK, puts]
  | _ :: _, [], _, _ => by simp [putsK, puts]
  | i :: is, v :: vs, l, k => by simp [putsK, puts, setK_eq, putsK_eq is vs]

theorem lift_then {N : Env → List HP → Prop} {Q : Post} {e : Exit} {a : Act} {w : World} (h : lift D (thenP N Q) e a w) :
    Exit.then (fun a w => ∃ l L, a = ⟨l.toArray, D⟩ ∧ Sat w L ∧ N l L) (lift D Q) e a w := by
  obtain ⟨l, L, rfl, s, hq⟩ := h
  cases e <;> exact ⟨l, L, rfl, s, hq⟩

/-- the end of a round: the next round's beginning, with less to do -/
structure Next {A : Type} (vs : A → List Value) (Ls : A → List HP) (I : A → Prop) (μ : A → Nat) (l0 : Env) (live dead : List Nat) (a : A) (l' : Env) (L' : List HP) : Prop where
  go : ∃ a', l' = puts (puts l0 live (vs a')) dead (gets l' dead) ∧ Ent L' (Ls a') ∧ I a' ∧ μ a' < μ a

/-- A LOOP: 'vs': what stands in the live slots, 'Ls' what holds of memory, of a state that 'a' tells; 'μ' falls. -/
theorem Lp.byN {c : Code} {ws : List Nat} {Q : Post} {l : Env} {L : List HP} (hτ : TysOk P τ) {A : Type} (live : List Nat) (vs : A → List Value) (Ls : A → List HP) (I : A → Prop) (μ : A → Nat) (a0 : A) (N : A → Env → List HP → Prop)
    (hN : ∀ a l' L', N a l' L' → Next vs Ls I μ l live (minusN ws live) a l' L')
    (h0 : l = puts l live (vs a0)) (hL : Ent L (Ls a0)) (hI : I a0)
    (round : ∀ a, I a → allN (minusN ws live).length fun ds => putsK l live (vs a) fun l1 => putsK l1 (minusN ws live) ds fun l2 =>
      wpC P τ D c (thenP (fun l' L' => N a l' L') Q) l2 (Ls a)) : Lp P D c ws Q l L := by
  refine ⟨fun w s => ?_⟩
  refine wp_loop_m (fun n a w => ∃ x l', a = ⟨l'.toArray, D⟩ ∧ l' = puts (puts l live (vs x)) (minusN ws live) (gets l' (minusN ws live)) ∧ Sat w (Ls x) ∧ I x ∧ μ x = n)
    (n := μ a0) ⟨a0, l, rfl, by rw [← h0, puts_gets], hL _ s, hI, rfl⟩ ?_
  rintro n a w ⟨x, l', rfl, hl, s, hI, rfl⟩
  have h := allN_spec (round x hI) (gets l' (minusN ws live)) (gets_len _ _)
  rw [putsK_eq, putsK_eq, ← hl] at h
  refine wp_mono (wpC_sound hτ c _ _ _ h w s) fun e a' w' hq => ?_
  have := lift_then hq
  cases e with
  | normal =>
    obtain ⟨l2, L2, rfl, s2, hn⟩ := this
    obtain ⟨a2, h1, h2, h3, h4⟩ := hN _ _ _ hn
    exact ⟨μ a2, h4, a2, l2, rfl, h1, h2 _ s2, h3, rfl⟩
  | _ => exact this
theorem Lp.by {c : Code} {ws : List Nat} {Q : Post} {l : Env} {L : List HP} (hτ : TysOk P τ) {A : Type} (live : List Nat) (vs : A → List Value) (Ls : A → List HP) (I : A → Prop) (μ : A → Nat) (a0 : A)
    (h0 : l = puts l live (vs a0)) (hL : Ent L (Ls a0)) (hI : I a0)
    (round : ∀ a, I a → allN (minusN ws live).length fun ds => putsK l live (vs a) fun l1 => putsK l1 (minusN ws live) ds fun l2 =>
      wpC P τ D c (thenP (fun l' L' => Next vs Ls I μ l live (minusN ws live) a l' L') Q) l2 (Ls a)) : Lp P D c ws Q l L :=
  Lp.byN hτ live vs Ls I μ a0 (fun a l' L' => Next vs Ls I μ l live (minusN ws live) a l' L') (fun _ _ _ h => h) h0 hL hI round

structure Next2 {A B : Type} (vs : A → B → List Value) (Ls : A → B → List HP) (I : A → B → Prop) (μ : A → B → Nat) (l0 : Env) (live dead : List Nat) (a : A) (b : B) (l' : Env) (L' : List HP) : Prop where
  go : ∃ a1 b1, l' = puts (puts l0 live (vs a1 b1)) dead (gets l' dead) ∧ Ent L' (Ls a1 b1) ∧ I a1 b1 ∧ μ a1 b1 < μ a b
theorem Lp.by2 {c : Code} {ws : List Nat} {Q : Post} {l : Env} {L : List HP} (hτ : TysOk P τ) {A B : Type} (live : List Nat) (vs : A → B → List Value) (Ls : A → B → List HP) (I : A → B → Prop) (μ : A → B → Nat) (a0 : A) (b0 : B)
    (h0 : l = puts l live (vs a0 b0)) (hL : Ent L (Ls a0 b0)) (hI : I a0 b0)
    (round : ∀ a b, I a b → allN (minusN ws live).length fun ds => putsK l live (vs a b) fun l1 => putsK l1 (minusN ws live) ds fun l2 =>
      wpC P τ D c (thenP (fun l' L' => Next2 vs Ls I μ l live (minusN ws live) a b l' L') Q) l2 (Ls a b)) : Lp P D c ws Q l L :=
  Lp.byN hτ live (fun s : A × B => vs s.1 s.2) (fun s => Ls s.1 s.2) (fun s => I s.1 s.2) (fun s => μ s.1 s.2) (a0, b0) (fun s l' L' => Next2 vs Ls I μ l live (minusN ws live) s.1 s.2 l' L')
    (fun s l' L' ⟨a1, b1, h1, h2, h3, h4⟩ => ⟨(a1, b1), h1, h2, h3, h4⟩) h0 hL hI fun s hI => round s.1 s.2 hI

structure Next3 {A B C : Type} (vs : A → B → C → List Value) (Ls : A → B → C → List HP) (I : A → B → C → Prop) (μ : A → B → C → Nat) (l0 : Env) (live dead : List Nat) (a : A) (b : B) (c' : C) (l' : Env) (L' : List HP) : Prop where
  go : ∃ a1 b1 c1, l' = puts (puts l0 live (vs a1 b1 c1)) dead (gets l' dead) ∧ Ent L' (Ls a1 b1 c1) ∧ I a1 b1 c1 ∧ μ a1 b1 c1 < μ a b c'
theorem Lp.by3 {c : Code} {ws : List Nat} {Q : Post} {l : Env} {L : List HP} (hτ : TysOk P τ) {A B C : Type} (live : List Nat) (vs : A → B → C → List Value) (Ls : A → B → C → List HP) (I : A → B → C → Prop) (μ : A → B → C → Nat) (a0 : A) (b0 : B) (c0 : C)
    (h0 : l = puts l live (vs a0 b0 c0)) (hL : Ent L (Ls a0 b0 c0)) (hI : I a0 b0 c0)
    (round : ∀ a b c', I a b c' → allN (minusN ws live).length fun ds => putsK l live (vs a b c') fun l1 => putsK l1 (minusN ws live) ds fun l2 =>
      wpC P τ D c (thenP (fun l' L' => Next3 vs Ls I μ l live (minusN ws live) a b c' l' L') Q) l2 (Ls a b c')) : Lp P D c ws Q l L :=
  Lp.byN hτ live (fun s : A × B × C => vs s.1 s.2.1 s.2.2) (fun s => Ls s.1 s.2.1 s.2.2) (fun s => I s.1 s.2.1 s.2.2) (fun s => μ s.1 s.2.1 s.2.2) (a0, b0, c0) (fun s l' L' => Next3 vs Ls I μ l live (minusN ws live) s.1 s.2.1 s.2.2 l' L')
    (fun s l' L' ⟨a1, b1, c1, h1, h2, h3, h4⟩ => ⟨(a1, b1, c1), h1, h2, h3, h4⟩) h0 hL hI fun s hI => round s.1 s.2.1 s.2.2 hI

structure Next4 {A B C D' : Type} (vs : A → B → C → D' → List Value) (Ls : A → B → C → D' → List HP) (I : A → B → C → D' → Prop) (μ : A → B → C → D' → Nat) (l0 : Env) (live dead : List Nat) (a : A) (b : B) (c' : C) (d : D') (l' : Env) (L' : List HP) : Prop where
  go : ∃ a1 b1 c1 d1, l' = puts (puts l0 live (vs a1 b1 c1 d1)) dead (gets l' dead) ∧ Ent L' (Ls a1 b1 c1 d1) ∧ I a1 b1 c1 d1 ∧ μ a1 b1 c1 d1 < μ a b c' d
theorem Lp.by4 {c : Code} {ws : List Nat} {Q : Post} {l : Env} {L : List HP} (hτ : TysOk P τ) {A B C D' : Type} (live : List Nat) (vs : A → B → C → D' → List Value) (Ls : A → B → C → D' → List HP) (I : A → B → C → D' → Prop) (μ : A → B → C → D' → Nat) (a0 : A) (b0 : B) (c0 : C) (d0 : D')
    (h0 : l = puts l live (vs a0 b0 c0 d0)) (hL : Ent L (Ls a0 b0 c0 d0)) (hI : I a0 b0 c0 d0)
    (round : ∀ a b c' d, I a b c' d → allN (minusN ws live).length fun ds => putsK l live (vs a b c' d) fun l1 => putsK l1 (minusN ws live) ds fun l2 =>
      wpC P τ D c (thenP (fun l' L' => Next4 vs Ls I μ l live (minusN ws live) a b c' d l' L') Q) l2 (Ls a b c' d)) : Lp P D c ws Q l L :=
  Lp.byN hτ live (fun s : A × B × C × D' => vs s.1 s.2.1 s.2.2.1 s.2.2.2) (fun s => Ls s.1 s.2.1 s.2.2.1 s.2.2.2) (fun s => I s.1 s.2.1 s.2.2.1 s.2.2.2) (fun s => μ s.1 s.2.1 s.2.2.1 s.2.2.2) (a0, b0, c0, d0) (fun s l' L' => Next4 vs Ls I μ l live (minusN ws live) s.1 s.2.1 s.2.2.1 s.2.2.2 l' L')
    (fun s l' L' ⟨a1, b1, c1, d1, h1, h2, h3, h4⟩ => ⟨(a1, b1, c1, d1), h1, h2, h3, h4⟩) h0 hL hI fun s hI => round s.1 s.2.1 s.2.2.1 s.2.2.2 hI

/-! labels that are jumped to -/
def jumpP (lab : Nat) (N : Env → List HP → Prop) (Q : Post) : Post := fun e l L =>
  match e with
  | .goto i => bif Nat.beq i lab then N l L else False
  | .normal => Q .normal l L
  | .exit i => Q (.exit i) l L
  | .ret => Q .ret l L
  | .panic ch => Q (.panic ch) l L
  | .outgrown => Q .outgrown l L

theorem wp_scope_m {c rest : Code} {Q : Exit → Act → World → Prop} (lab : Nat) (J : Nat → Act → World → Prop) {a : Act} {w : World} (hf : findLabel c lab = some rest)
    (first : c.wp P (Exit.jump lab (fun a w => ∃ n, J n a w) Q) a w)
    (pass : ∀ n a w, J n a w → rest.wp P (Exit.jump lab (fun a' w' => ∃ m, m < n ∧ J m a' w') Q) a w) : (Code.scope c).wp P Q a w := by
  classical
  let μ : Act → World → Nat := fun a w => if h : ∃ n, J n a w then (min_of h).choose else 0
  have hμ : ∀ a w, (∃ n, J n a w) → J (μ a w) a w ∧ ∀ k, J k a w → μ a w ≤ k := fun a w h => by
    have : μ a w = (min_of h).choose := dif_pos h
    rw [this]
    exact (min_of h).choose_spec
  refine wp_scope_jumps lab (fun a w => ∃ n, J n a w) μ hf first fun a w hI => ?_
  refine wp_mono (pass _ a w (hμ a w hI).1) fun e a' w' hq => ?_
  cases e with
  | goto i =>
    obtain ⟨rfl, m, hm, hJ⟩ := hq
    exact ⟨rfl, ⟨m, hJ⟩, Nat.lt_of_le_of_lt ((hμ a' w' ⟨m, hJ⟩).2 m hJ) hm⟩
  | _ => exact hq

theorem lift_jump {lab : Nat} {N : Env → List HP → Prop} {Q : Post} {e : Exit} {a : Act} {w : World} (h : lift D (jumpP lab N Q) e a w) :
    Exit.jump lab (fun a w => ∃ l L, a = ⟨l.toArray, D⟩ ∧ Sat w L ∧ N l L) (lift D Q) e a w := by
  obtain ⟨l, L, rfl, s, hq⟩ := h
  cases e with
  | goto i =>
    simp only [jumpP, cond_eq_ite] at hq
    split at hq
    · rename_i he; exact ⟨Nat.eq_of_beq_eq_true he, l, L, rfl, s, hq⟩
    · exact hq.elim
  | _ => exact ⟨l, L, rfl, s, hq⟩

/-- A SCOPE WITH ONE LABEL THAT IS JUMPED BACK TO -/
theorem Sc.by {c rest : Code} {ws : List Nat} {Q : Post} {l : Env} {L : List HP} (hτ : TysOk P τ) (lab : Nat) (hf : findLabel c lab = some rest) {A : Type} (live : List Nat) (vs : A → List Value) (Ls : A → List HP) (I : A → Prop) (μ : A → Nat)
    (first : wpC P τ D c (jumpP lab (fun l' L' => ∃ a, l' = puts (puts l live (vs a)) (minusN ws live) (gets l' (minusN ws live)) ∧ Ent L' (Ls a) ∧ I a) Q) l L)
    (pass : ∀ a, I a → allN (minusN ws live).length fun ds => putsK l live (vs a) fun l1 => putsK l1 (minusN ws live) ds fun l2 =>
      wpC P τ D rest (jumpP lab (fun l' L' => Next vs Ls I μ l live (minusN ws live) a l' L') Q) l2 (Ls a)) : Sc P D c ws Q l L := by
  refine ⟨fun w s => ?_⟩
  refine wp_scope_m lab (fun n a w => ∃ x l', a = ⟨l'.toArray, D⟩ ∧ l' = puts (puts l live (vs x)) (minusN ws live) (gets l' (minusN ws live)) ∧ Sat w (Ls x) ∧ I x ∧ μ x = n) hf ?_ ?_
  · refine wp_mono (wpC_sound hτ c _ _ _ first w s) fun e a' w' hq => ?_
    have := lift_jump hq
    cases e with
    | goto i =>
      obtain ⟨rfl, l2, L2, rfl, s2, a2, h1, h2, h3⟩ := this
      exact ⟨rfl, μ a2, a2, l2, rfl, h1, h2 _ s2, h3, rfl⟩
    | _ => exact this
  · rintro n a w ⟨x, l', rfl, hl, s, hI, rfl⟩
    have h := allN_spec (pass x hI) (gets l' (minusN ws live)) (gets_len _ _)
    rw [putsK_eq, putsK_eq, ← hl] at h
    refine wp_mono (wpC_sound hτ rest _ _ _ h w s) fun e a' w' hq => ?_
    have := lift_jump hq
    cases e with
    | goto i =>
      obtain ⟨rfl, l2, L2, rfl, s2, ⟨a2, h1, h2, h3, h4⟩⟩ := this
      exact ⟨rfl, μ a2, h4, a2, l2, rfl, h1, h2 _ s2, h3, rfl⟩
    | _ => exact this

/-- a scope through which no goto goes -/
def noJump (Q : Post) : Post := fun e l L =>
  match e with
  | .goto _ => False
  | .normal => Q .normal l L
  | .exit i => Q (.exit i) l L
  | .ret => Q .ret l L
  | .panic ch => Q (.panic ch) l L
  | .outgrown => Q .outgrown l L
theorem Sc.plain {c : Code} {ws : List Nat} {Q : Post} {l : Env} {L : List HP} (hτ : TysOk P τ) (h : wpC P τ D c (noJump Q) l L) : Sc P D c ws Q l L := by
  refine ⟨fun w s => wp_scope_straight (wp_mono (wpC_sound hτ c _ _ _ h w s) ?_)⟩
  rintro e a w' ⟨l', L', rfl, s', hq⟩
  cases e with
  | goto i => exact hq.elim
  | _ => exact ⟨l', L', rfl, s', hq⟩
end Go.Eng
