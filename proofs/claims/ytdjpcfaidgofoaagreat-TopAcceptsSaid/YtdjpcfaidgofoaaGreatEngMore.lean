/- More rules: great structs beside themselves; calls over parts, wherever they stand; loops whose end is cut off; parts of a row's element. -/
import Derived.Test.YtdjpcfaidgofoaaGreatEngReg
set_option linter.all false
namespace Go.Eng
set_option linter.unusedVariables false
def tyB (τ : Tys) (t : TypeId) (k : TyI → Bool) : Bool :=
  match τ, t with
  | [], _ => false
  | some i :: _, 0 => k i
  | none :: _, 0 => false
  | _ :: τ, n + 1 => tyB τ n k
theorem tyB_spec {k : TyI → Bool} : ∀ {τ : Tys} {t : TypeId}, tyB τ t k = true → ∃ i, k i = true ∧ ∀ K : TyI → Prop, K i → tyK τ t K
  | [], _, h => by simp [tyB] at h
  | some i :: _, 0, h => ⟨i, by simpa [tyB] using h, fun K hK => hK⟩
  | none :: _, 0, h => by simp [tyB] at h
  | some j :: τ, n + 1, h => by
    obtain ⟨i, hi, hk⟩ := tyB_spec (τ := τ) (t := n) (by simpa [tyB] using h)
    exact ⟨i, hi, fun K hK => hk K hK⟩
  | none :: τ, n + 1, h => by
    obtain ⟨i, hi, hk⟩ := tyB_spec (τ := τ) (t := n) (by simpa [tyB] using h)
    exact ⟨i, hi, fun K hK => hk K hK⟩
def partB (τ : Tys) (t : TypeId) (cs : List Value) (off : Nat) (B : Value → Bool) : Bool :=
  tyB τ t fun i => bif aggD i.d then B (.agg ((cs.drop off).take i.size).toArray) else (match cs[off]? with | some v => B v | none => false)
theorem partB_spec {τ : Tys} {t : TypeId} {cs : List Value} {off : Nat} {B : Value → Bool} (h : partB τ t cs off B = true) : ∃ v, B v = true ∧ ∀ K : Value → Prop, K v → partC τ t cs off K := by
  obtain ⟨i, hi, hk⟩ := tyB_spec h
  cases hg : aggD i.d with
  | true =>
    rw [hg] at hi
    refine ⟨_, hi, fun K hK => hk _ ?_⟩
    rw [hg]
    simp only [cond_true, forceL_eq]
    exact hK
  | false =>
    rw [hg] at hi
    simp only [cond_false] at hi
    split at hi
    · rename_i v hv
      obtain ⟨hlt, he⟩ := List.getElem?_eq_some_iff.1 hv
      refine ⟨v, hi, fun K hK => hk _ ?_⟩
      rw [hg]
      simp only [cond_false]
      refine ⟨hlt, ?_⟩
      rw [nthK_eq]
      have : cs.getD off undef = v := by simp [List.getD, hv]
      rw [this]
      exact hK
    · cases hi
def selfFs (τ : Tys) (E : TypeId → Value → Bool) (cs : List Value) : List (Nat × Nat) → Bool
  | [] => true
  | f :: fs => partB τ f.2 cs f.1 (E f.2) && selfFs τ E cs fs
def selfAs (τ : Tys) (E : Value → Bool) (e : TypeId) (cs : List Value) (s : Nat) : Nat → Nat → Bool
  | _, 0 => true
  | at_, m + 1 => partB τ e cs (at_ * s) E && selfAs τ E e cs s (at_ + 1) m
def selfE (τ : Tys) : Nat → TypeId → Value → Bool
  | 0, _, _ => false
  | n + 1, t, x => tyB τ t fun i => (match i.d, x with
    | .int _, .int _ _ => true
    | .bool, .bool _ => true
    | .string, .string _ => true
    | .struct _, .agg (Array.mk xs) => i.eq && selfFs τ (selfE τ n) xs i.fs
    | .array len e, .agg (Array.mk xs) => tyB τ e fun j => selfAs τ (selfE τ n e) e xs j.size 0 len
    | _, _ => false)
theorem selfFs_spec {τ : Tys} {n : Nat} {cs : List Value} (hE : ∀ t x (k : DecK), selfE τ n t x = true → (∀ p ip, p → k p ip) → eqT τ n t x x k) :
    ∀ (fs : List (Nat × Nat)) (k : DecK), selfFs τ (selfE τ n) cs fs = true → (∀ p ip, p → k p ip) → eqFs τ (eqT τ n) cs cs fs k
  | [], k, _, hk => hk _ _ trivial
  | [f], k, h, hk => by
    simp only [selfFs, Bool.and_eq_true] at h
    obtain ⟨v, hv, hK⟩ := partB_spec h.1
    exact hK _ (hK _ (hE _ _ _ hv hk))
  | f :: g :: fs, k, h, hk => by
    rw [selfFs, Bool.and_eq_true] at h
    obtain ⟨v, hv, hK⟩ := partB_spec h.1
    exact hK _ (hK _ (hE _ _ _ hv fun p ip hp => selfFs_spec hE (g :: fs) _ h.2 fun q iq hq => hk _ _ ⟨hp, hq⟩))
theorem selfAs_spec {τ : Tys} {n : Nat} {e : TypeId} {s : Nat} {cs : List Value} (hE : ∀ x (k : DecK), selfE τ n e x = true → (∀ p ip, p → k p ip) → eqT τ n e x x k) :
    ∀ (m a : Nat) (k : DecK), selfAs τ (selfE τ n e) e cs s a m = true → (∀ p ip, p → k p ip) → eqAs τ (eqT τ n e) e cs cs s a m k
  | 0, a, k, _, hk => hk _ _ trivial
  | m + 1, a, k, h, hk => by
    rw [selfAs, Bool.and_eq_true] at h
    obtain ⟨v, hv, hK⟩ := partB_spec h.1
    exact hK _ (hK _ (hE _ _ hv fun p ip hp => selfAs_spec hE m (a + 1) _ h.2 fun q iq hq => hk _ _ ⟨hp, hq⟩))
theorem self_spec {τ : Tys} : ∀ (n : Nat) (t : TypeId) (x : Value) (k : DecK), selfE τ n t x = true → (∀ p ip, p → k p ip) → eqT τ n t x x k
  | 0, _, _, _, h, _ => by simp [selfE] at h
  | n + 1, t, x, k, h, hk => by
    rw [selfE] at h
    obtain ⟨i, hi, hK⟩ := tyB_spec h
    rw [eqT]
    refine hK _ ?_
    split at hi
    · rename_i kd j a hd
      rw [hd]
      have : Nat.beq (kindN j) (kindN j) = true := Nat.beq_refl _
      simp only [this, cond_true]
      exact hk _ _ rfl
    · rename_i hd
      rw [hd]
      exact hk _ _ rfl
    · rename_i hd
      rw [hd]
      exact hk _ _ rfl
    · rename_i x0 xs hd
      rw [Bool.and_eq_true] at hi
      rw [hd]
      simp only [hi.1, cond_true]
      exact selfFs_spec (fun t x k h => self_spec n t x k h) _ _ hi.2 hk
    · rename_i len e xs hd
      rw [hd]
      obtain ⟨j, hj, hJ⟩ := tyB_spec hi
      exact hJ _ (selfAs_spec (fun x k h => self_spec n e x k h) _ _ _ hj hk)
    · cases hi
/-- a great struct beside itself -/
theorem Eqs.same {τ : Tys} {t : TypeId} {a : Array Value} {K : Bool → Prop} (h : selfE τ 9 t (.agg a) = true) (k : K true) : Eqs τ t a a K :=
  ⟨self_spec 9 t _ _ h fun p ip hp => by rw [decide_eq_true hp]; exact k⟩
theorem Eqs.is {τ : Tys} {t : TypeId} {a b : Array Value} {K : Bool → Prop} (e : a = b) (h : selfE τ 9 t (.agg a) = true) (k : K true) : Eqs τ t a b K := by subst e; exact Eqs.same h k
end Go.Eng
namespace Go.Eng
set_option linter.unusedVariables false
variable {P : Program} {τ : Tys} {L : List HP}
theorem Cl.isAt2 {f : FuncId} {args : List Value} {A B A' B' : HP} {K : Value → List HP → Prop} {X : List PanicEntry → List HP → Prop} {v : Value} (i j : Nat) (hi : L[i]? = some A) (hj : (L.eraseIdx i)[j]? = some B)
    (c : Con P f args (A :: B :: (L.eraseIdx i).eraseIdx j) (Is v (A' :: B' :: (L.eraseIdx i).eraseIdx j))) (k : ldelK L i fun M => ldelK M j fun R => K v (A' :: B' :: R)) : Cl P f args L K X := by
  rw [ldelK_eq, ldelK_eq] at k
  refine Cl.is ⟨c.ent, fun w s => (c.run w (s.perm (perm_at2 i j hi hj))).mono fun e w' => ?_⟩ k
  cases e with
  | returned v' => rintro ⟨L', s', r⟩; exact ⟨_, r.l _ s', ⟨r.v, Ent.rfl⟩⟩
  | panicked ch => rintro ⟨L', s', r⟩; exact r.elim
  | outgrown => exact id
variable {D : List Deferred}
/-- a label that is reached, with five things that change -/
structure Jump5 {A B C D' E' : Type} (vs : A → B → C → D' → E' → List Value) (Ls : A → B → C → D' → E' → List HP) (I : A → B → C → D' → E' → Prop) (l0 : Env) (live dead : List Nat) (l' : Env) (L' : List HP) : Prop where
  go : ∃ a b c d e, l' = puts (puts l0 live (vs a b c d e)) dead (gets l' dead) ∧ Ent L' (Ls a b c d e) ∧ I a b c d e
structure Again5 {A B C D' E' : Type} (vs : A → B → C → D' → E' → List Value) (Ls : A → B → C → D' → E' → List HP) (I : A → B → C → D' → E' → Prop) (μ : A → B → C → D' → E' → Nat) (m : Nat) (l0 : Env) (live dead : List Nat) (l' : Env) (L' : List HP) : Prop where
  go : ∃ a b c d e, l' = puts (puts l0 live (vs a b c d e)) dead (gets l' dead) ∧ Ent L' (Ls a b c d e) ∧ I a b c d e ∧ μ a b c d e < m
theorem Sc.by5 {c rest : Code} {ws : List Nat} {Q : Post} {l : Env} {L : List HP} (hτ : TysOk P τ) (lab : Nat) (hf : findLabel c lab = some rest) {A B C D' E' : Type} (live : List Nat) (vs : A → B → C → D' → E' → List Value) (Ls : A → B → C → D' → E' → List HP) (I : A → B → C → D' → E' → Prop) (μ : A → B → C → D' → E' → Nat)
    (first : wpC P τ D c (jumpP lab (fun l' L' => Jump5 vs Ls I l live (minusN ws live) l' L') Q) l L)
    (pass : ∀ a b c' d e, I a b c' d e → allN (minusN ws live).length fun ds => putsK l live (vs a b c' d e) fun l1 => putsK l1 (minusN ws live) ds fun l2 =>
      wpC P τ D rest (jumpP lab (fun l' L' => Again5 vs Ls I μ (μ a b c' d e) l live (minusN ws live) l' L') Q) l2 (Ls a b c' d e)) : Sc P D c ws Q l L := by
  refine ⟨fun w s => ?_⟩
  refine wp_scope_m lab (fun n a w => ∃ (x : A × B × C × D' × E') (l' : Env), a = ⟨l'.toArray, D⟩ ∧ l' = puts (puts l live (vs x.1 x.2.1 x.2.2.1 x.2.2.2.1 x.2.2.2.2)) (minusN ws live) (gets l' (minusN ws live)) ∧ Sat w (Ls x.1 x.2.1 x.2.2.1 x.2.2.2.1 x.2.2.2.2) ∧ I x.1 x.2.1 x.2.2.1 x.2.2.2.1 x.2.2.2.2 ∧ μ x.1 x.2.1 x.2.2.1 x.2.2.2.1 x.2.2.2.2 = n) hf ?_ ?_
  · refine wp_mono (wpC_sound hτ c _ _ _ first w s) fun e a' w' hq => ?_
    have := lift_jump hq
    cases e with
    | goto i =>
      obtain ⟨rfl, l2, L2, rfl, s2, ⟨a2, b2, c2, d2, e2, h1, h2, h3⟩⟩ := this
      exact ⟨rfl, μ a2 b2 c2 d2 e2, (a2, b2, c2, d2, e2), l2, rfl, h1, h2 _ s2, h3, rfl⟩
    | _ => exact this
  · rintro n a w ⟨x, l', rfl, hl, s, hI, rfl⟩
    have h := allN_spec (pass _ _ _ _ _ hI) (gets l' (minusN ws live)) (gets_len _ _)
    rw [putsK_eq, putsK_eq, ← hl] at h
    refine wp_mono (wpC_sound hτ rest _ _ _ h w s) fun e a' w' hq => ?_
    have := lift_jump hq
    cases e with
    | goto i =>
      obtain ⟨rfl, l2, L2, rfl, s2, ⟨a2, b2, c2, d2, e2, h1, h2, h3, h4⟩⟩ := this
      exact ⟨rfl, _, h4, (a2, b2, c2, d2, e2), l2, rfl, h1, h2 _ s2, h3, rfl⟩
    | _ => exact this
end Go.Eng
namespace Go.Eng
set_option linter.unusedVariables false
variable {P : Program} {τ : Tys} {L : List HP}
theorem Cl.exsAt {β : Type} {f : FuncId} {args : List Value} {B : HP} {K : Value → List HP → Prop} {X : List PanicEntry → List HP → Prop} {V : β → Value} {H : β → HP} {R : β → Prop} (i : Nat) (hi : L[i]? = some B)
    (c : ∀ M, Con P f args (B :: M) (Exs V (fun x => H x :: M) R)) (k : ldelK L i fun M => ∀ x, R x → K (V x) (H x :: M)) : Cl P f args L K X := by
  rw [ldelK_eq] at k
  exact Cl.ent (Ent.perm (perm_at L i hi)) (Cl.exs (c _) k)
theorem Cl.exsAt2 {β : Type} {f : FuncId} {args : List Value} {B : HP} {K : Value → List HP → Prop} {X : List PanicEntry → List HP → Prop} {V : β → Value} {H G : β → HP} {R : β → Prop} (i : Nat) (hi : L[i]? = some B)
    (c : ∀ M, Con P f args (B :: M) (Exs V (fun x => H x :: G x :: M) R)) (k : ldelK L i fun M => ∀ x, R x → K (V x) (H x :: G x :: M)) : Cl P f args L K X := by
  rw [ldelK_eq] at k
  exact Cl.ent (Ent.perm (perm_at L i hi)) (Cl.exs (c _) k)
theorem CD.isAt {f : FuncId} {args : List Value} {B : HP} {K : Value → Prop} {v : Value} (i : Nat) (hi : L[i]? = some B) (c : ∀ M, Con P f args (B :: M) (Is v (B :: M))) (k : K v) : CD P f args L K :=
  CD.is (fun M => Con.isAt (((perm_at L i hi).append_left M).trans List.perm_middle) (c (M ++ L.eraseIdx i))) k
/-- a row of one's own, out of a row that was just laid -/
theorem FEnt.lit {α : Type} {E : Enc α} {t : TypeId} {b c : Nat} {cs : List Value} {xs : List α} {L M : List HP} (i : Nat) (hi : L[i]? = some (ptc b t cs)) (hx : cs = E.flat xs) (hl : c = xs.length) (hm : Nat.ble xs.length maxLen = true) (h : FEnt (L.eraseIdx i) M) :
    FEnt L (own E t (some ⟨b, 0, none⟩) c xs :: M) := fun K w s => by
  subst hl
  have s1 := FEnt.at i hi h K w s
  exact (Ent.own (E := E) (L := K ++ M) xs hx (Nat.le_of_ble_eq_true hm) w (s1.perm List.perm_middle)).perm List.perm_middle.symm
/-- append to a row that was just laid -/
theorem Sm.appLit {α : Type} {E : Enc α} {ys : List α} (hτ : TysOk P τ) {st et ty : TypeId} {si ei : TyI} {n c m c' b : Nat} {a' : Option Addr} {cs : List Value} {K : Value → List HP → Prop} (i : Nat) (hi : L[i]? = some (Eng.ptc b et cs)) (xs : List α) (hx : cs = E.flat xs) (hm : m = ys.length)
    (hr : Rd E L a' ys) (hs : τ[st]? = some (some si)) (hsd : si.d = .slice et) (he : τ[et]? = some (some ei)) (hz : ei.size = E.sz) (hn : n = xs.length) (hc : c = xs.length) (hxl : Nat.ble xs.length 1000000 = true)
    (hby : Nat.ble ei.bytes 4096 = true) (hmax : ys.length ≤ 34358000000)
    (k : ∀ a2 c2, (xs ++ ys).length ≤ c2 → Ad a2 (xs ++ ys).length → ldelK L i fun M => K (.slice a2 (xs ++ ys).length c2) (own E et a2 c2 (xs ++ ys) :: M)) :
    Sm P (Builtin.append_ #[st, st] ty #[.slice (some ⟨b, 0, none⟩) n c, .slice a' m c']) L K := by
  subst hc
  have hby := Nat.le_of_ble_eq_true hby
  have hxl := Nat.le_of_ble_eq_true hxl
  refine Sm.app (E := E) (xs := xs) (M := L.eraseIdx i) hτ (fun w s => Ent.own xs hx (Nat.le_trans hxl (by decide)) w (s.perm (perm_at L i hi))) hr hs hsd he hz hn hm (by omega) ?_ (fun a2 c2 h1 h2 => ?_)
  · exact Nat.le_trans (Nat.mul_le_mul (show xs.length + ys.length ≤ 34359738368 by omega) hby) (by decide)
  · have := k a2 c2 h1 h2
    rwa [ldelK_eq] at this
end Go.Eng
namespace Go.Eng
set_option linter.unusedVariables false
variable {P : Program} {τ : Tys} {L : List HP}
theorem Cl.pre {f : FuncId} {args : List Value} {K : Value → List HP → Prop} {X : List PanicEntry → List HP → Prop} {M : List HP} (As : List HP) (h : FEnt L (As ++ M)) (c : Cl P f args (As ++ M) K X) : Cl P f args L K X := Cl.ent h.ent c
theorem CD.isAt2 {f : FuncId} {args : List Value} {B C : HP} {K : Value → Prop} {v : Value} (i j : Nat) (hi : L[i]? = some B) (hj : (L.eraseIdx i)[j]? = some C) (c : ∀ M, Con P f args (B :: C :: M) (Is v (B :: C :: M))) (k : K v) : CD P f args L K :=
  CD.is (fun M => Con.isAt (M := B :: C :: (M ++ (L.eraseIdx i).eraseIdx j)) (((perm_at2 i j hi hj).append_left M).trans (List.perm_middle.trans (List.perm_middle.cons B))) (c _)) k
end Go.Eng
namespace Go.Eng
set_option linter.unusedVariables false
variable {P : Program} {τ : Tys} {D : List Deferred}
def exitP (id : Nat) (N : Env → List HP → Prop) (Q : Post) : Post := fun e l L =>
  match e with
  | .normal => Q .normal l L
  | .exit i => bif Nat.beq i id then N l L else Q (.exit i) l L
  | .goto i => Q (.goto i) l L
  | .ret => Q .ret l L
  | .panic ch => Q (.panic ch) l L
  | .outgrown => Q .outgrown l L
theorem Lp.cutN {c : Code} {ws : List Nat} {Q : Post} {l : Env} {L : List HP} (hτ : TysOk P τ) {A : Type} (id : Nat) (live : List Nat) (vs : A → List Value) (Ls : A → List HP) (I J : A → Prop) (μ : A → Nat) (a0 : A) (N : A → Env → List HP → Prop) (E : Env → List HP → Prop)
    (hN : ∀ a l' L', N a l' L' → Next vs Ls I μ l live (minusN ws live) a l' L')
    (hE : ∀ l' L', E l' L' → ∃ a, l' = puts (puts l live (vs a)) (minusN ws live) (gets l' (minusN ws live)) ∧ Ent L' (Ls a) ∧ J a)
    (h0 : l = puts l live (vs a0)) (hL : Ent L (Ls a0)) (hI : I a0)
    (round : ∀ a, I a → allN (minusN ws live).length fun ds => putsK l live (vs a) fun l1 => putsK l1 (minusN ws live) ds fun l2 =>
      wpC P τ D c (thenP (fun l' L' => N a l' L') (exitP id E Q)) l2 (Ls a))
    (after : ∀ a, J a → allN (minusN ws live).length fun ds => putsK l live (vs a) fun l1 => putsK l1 (minusN ws live) ds fun l2 => Q (.exit id) l2 (Ls a)) : Lp P D c ws Q l L := by
  have hp : Lp P D c ws (exitP id E Q) l L := Lp.byN hτ live vs Ls I μ a0 N hN h0 hL hI round
  refine ⟨fun w s => wp_mono (hp.go w s) ?_⟩
  rintro e a w' ⟨l', L', rfl, s', hq⟩
  cases e with
  | exit i =>
    simp only [exitP, cond_eq_ite] at hq
    split at hq
    · rename_i he
      have he := Nat.eq_of_beq_eq_true he
      subst he
      obtain ⟨x, hx, hent, hJ⟩ := hE _ _ hq
      have h := allN_spec (after x hJ) (gets l' (minusN ws live)) (gets_len _ _)
      rw [putsK_eq, putsK_eq, ← hx] at h
      exact ⟨l', _, rfl, hent _ s', h⟩
    · exact ⟨l', L', rfl, s', hq⟩
  | normal => exact ⟨l', L', rfl, s', hq⟩
  | goto i => exact ⟨l', L', rfl, s', hq⟩
  | ret => exact ⟨l', L', rfl, s', hq⟩
  | panic ch => exact ⟨l', L', rfl, s', hq⟩
  | outgrown => exact ⟨l', L', rfl, s', hq⟩
structure Done {A : Type} (vs : A → List Value) (Ls : A → List HP) (J : A → Prop) (l0 : Env) (live dead : List Nat) (l' : Env) (L' : List HP) : Prop where
  go : ∃ a, l' = puts (puts l0 live (vs a)) dead (gets l' dead) ∧ Ent L' (Ls a) ∧ J a
theorem Lp.cut {c : Code} {ws : List Nat} {Q : Post} {l : Env} {L : List HP} (hτ : TysOk P τ) {A : Type} (id : Nat) (live : List Nat) (vs : A → List Value) (Ls : A → List HP) (I J : A → Prop) (μ : A → Nat) (a0 : A)
    (h0 : l = puts l live (vs a0)) (hL : Ent L (Ls a0)) (hI : I a0)
    (round : ∀ a, I a → allN (minusN ws live).length fun ds => putsK l live (vs a) fun l1 => putsK l1 (minusN ws live) ds fun l2 =>
      wpC P τ D c (thenP (fun l' L' => Next vs Ls I μ l live (minusN ws live) a l' L') (exitP id (fun l' L' => Done vs Ls J l live (minusN ws live) l' L') Q)) l2 (Ls a))
    (after : ∀ a, J a → allN (minusN ws live).length fun ds => putsK l live (vs a) fun l1 => putsK l1 (minusN ws live) ds fun l2 => Q (.exit id) l2 (Ls a)) : Lp P D c ws Q l L :=
  Lp.cutN hτ id live vs Ls I J μ a0 _ (fun l' L' => Done vs Ls J l live (minusN ws live) l' L') (fun _ _ _ h => h) (fun _ _ h => h.go) h0 hL hI round after
structure Done2 {A B : Type} (vs : A → B → List Value) (Ls : A → B → List HP) (J : A → B → Prop) (l0 : Env) (live dead : List Nat) (l' : Env) (L' : List HP) : Prop where
  go : ∃ a b, l' = puts (puts l0 live (vs a b)) dead (gets l' dead) ∧ Ent L' (Ls a b) ∧ J a b
theorem Lp.cut2 {c : Code} {ws : List Nat} {Q : Post} {l : Env} {L : List HP} (hτ : TysOk P τ) {A B : Type} (id : Nat) (live : List Nat) (vs : A → B → List Value) (Ls : A → B → List HP) (I J : A → B → Prop) (μ : A → B → Nat) (a0 : A) (b0 : B)
    (h0 : l = puts l live (vs a0 b0)) (hL : Ent L (Ls a0 b0)) (hI : I a0 b0)
    (round : ∀ a b, I a b → allN (minusN ws live).length fun ds => putsK l live (vs a b) fun l1 => putsK l1 (minusN ws live) ds fun l2 =>
      wpC P τ D c (thenP (fun l' L' => Next2 vs Ls I μ l live (minusN ws live) a b l' L') (exitP id (fun l' L' => Done2 vs Ls J l live (minusN ws live) l' L') Q)) l2 (Ls a b))
    (after : ∀ a b, J a b → allN (minusN ws live).length fun ds => putsK l live (vs a b) fun l1 => putsK l1 (minusN ws live) ds fun l2 => Q (.exit id) l2 (Ls a b)) : Lp P D c ws Q l L :=
  Lp.cutN hτ id live (fun s : A × B => vs s.1 s.2) (fun s => Ls s.1 s.2) (fun s => I s.1 s.2) (fun s => J s.1 s.2) (fun s => μ s.1 s.2) (a0, b0) (fun s l' L' => Next2 vs Ls I μ l live (minusN ws live) s.1 s.2 l' L') (fun l' L' => Done2 vs Ls J l live (minusN ws live) l' L')
    (fun s l' L' ⟨a1, b1, h1, h2, h3, h4⟩ => ⟨(a1, b1), h1, h2, h3, h4⟩) (fun l' L' ⟨a1, b1, h1, h2, h3⟩ => ⟨(a1, b1), h1, h2, h3⟩) h0 hL hI (fun s hI => round s.1 s.2 hI) (fun s hJ => after s.1 s.2 hJ)
structure Done3 {A B C : Type} (vs : A → B → C → List Value) (Ls : A → B → C → List HP) (J : A → B → C → Prop) (l0 : Env) (live dead : List Nat) (l' : Env) (L' : List HP) : Prop where
  go : ∃ a b c, l' = puts (puts l0 live (vs a b c)) dead (gets l' dead) ∧ Ent L' (Ls a b c) ∧ J a b c
theorem Lp.cut3 {c : Code} {ws : List Nat} {Q : Post} {l : Env} {L : List HP} (hτ : TysOk P τ) {A B C : Type} (id : Nat) (live : List Nat) (vs : A → B → C → List Value) (Ls : A → B → C → List HP) (I J : A → B → C → Prop) (μ : A → B → C → Nat) (a0 : A) (b0 : B) (c0 : C)
    (h0 : l = puts l live (vs a0 b0 c0)) (hL : Ent L (Ls a0 b0 c0)) (hI : I a0 b0 c0)
    (round : ∀ a b c', I a b c' → allN (minusN ws live).length fun ds => putsK l live (vs a b c') fun l1 => putsK l1 (minusN ws live) ds fun l2 =>
      wpC P τ D c (thenP (fun l' L' => Next3 vs Ls I μ l live (minusN ws live) a b c' l' L') (exitP id (fun l' L' => Done3 vs Ls J l live (minusN ws live) l' L') Q)) l2 (Ls a b c'))
    (after : ∀ a b c', J a b c' → allN (minusN ws live).length fun ds => putsK l live (vs a b c') fun l1 => putsK l1 (minusN ws live) ds fun l2 => Q (.exit id) l2 (Ls a b c')) : Lp P D c ws Q l L :=
  Lp.cutN hτ id live (fun s : A × B × C => vs s.1 s.2.1 s.2.2) (fun s => Ls s.1 s.2.1 s.2.2) (fun s => I s.1 s.2.1 s.2.2) (fun s => J s.1 s.2.1 s.2.2) (fun s => μ s.1 s.2.1 s.2.2) (a0, b0, c0) (fun s l' L' => Next3 vs Ls I μ l live (minusN ws live) s.1 s.2.1 s.2.2 l' L') (fun l' L' => Done3 vs Ls J l live (minusN ws live) l' L')
    (fun s l' L' ⟨a1, b1, c1, h1, h2, h3, h4⟩ => ⟨(a1, b1, c1), h1, h2, h3, h4⟩) (fun l' L' ⟨a1, b1, c1, h1, h2, h3⟩ => ⟨(a1, b1, c1), h1, h2, h3⟩) h0 hL hI (fun s hI => round s.1 s.2.1 s.2.2 hI) (fun s hJ => after s.1 s.2.1 s.2.2 hJ)
end Go.Eng
namespace Go.Eng
set_option linter.unusedVariables false
variable {P : Program} {τ : Tys} {L : List HP} {α : Type} {E : Enc α} {a : Option Addr} {xs : List α}
theorem Ld.rdk2 {k i j sz : Nat} {v : Value} {K : Value → Prop} (hr : Rd E L a xs) (hs : E.sz = sz) (hb : k < xs.length) (hv : (E.e (xs.getD k E.d))[i + j]? = some v) (kk : K v) :
    Ld L ⟨blk a, off a + (k : Int).toNat * sz + i + j, none⟩ K := by
  rw [Nat.add_assoc]
  exact Ld.rdk hr hs hb hv kk
theorem LdN.rdkj {k m j sz : Nat} {K : List Value → Prop} (hr : Rd E L a xs) (hs : E.sz = sz) (hm : Nat.ble (j + m) sz = true) (hb : k < xs.length) (kk : K (((E.e (xs.getD k E.d)).drop j).take m)) :
    LdN L ⟨blk a, off a + (k : Int).toNat * sz + j, none⟩ m K := by
  subst hs
  have hm := Nat.le_of_ble_eq_true hm
  refine ⟨_, by rw [List.length_take, List.length_drop, E.len]; omega, fun w s i u hi => ?_, kk⟩
  rw [List.getElem?_take] at hi
  split at hi
  · rename_i hlt
    rw [List.getElem?_drop] at hi
    rw [add_of, Nat.add_assoc, Nat.add_assoc]
    refine hr.at_ w s _ _ ?_
    rw [Int.toNat_natCast, E.flat_at xs _ _ hb (by omega)]
    exact hi
  · cases hi
end Go.Eng
