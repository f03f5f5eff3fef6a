/- A struct is what it is. -/
import Derived.Test.YtmdffjaljejccaaEngRules
set_option linter.all false
namespace Go.Eng
set_option linter.unusedVariables false
def tyB (τ : Tys) (t : TypeId) (k : TyI → Bool) : Bool :=
  match τ, t with
  | [], _ => false
  | some i :: _, 0 => k i
  | none :: _, 0 => false
  | _ :: τ, n + 1 => tyB τ n k
theorem tyB_spec {k : TyI → Bool} : ∀ {τ : Tys} {t : TypeId}, tyB τ t k = true → ∃ i, k i = true ∧ ∀ K : TyI → Prop, K i → tyK τ t K
  | [], _, h => by simp [tyB] at h
  | some i :: _, 0, h => ⟨i, by simpa [tyB] using h, fun K hK => hK⟩
  | none :: _, 0, h => by simp [tyB] at h
  | some j :: τ, n + 1, h => by
    obtain ⟨i, hi, hk⟩ := tyB_spec (τ := τ) (t := n) (by simpa [tyB] using h)
    exact ⟨i, hi, fun K hK => hk K hK⟩
  | none :: τ, n + 1, h => by
    obtain ⟨i, hi, hk⟩ := tyB_spec (τ := τ) (t := n) (by simpa [tyB] using h)
    exact ⟨i, hi, fun K hK => hk K hK⟩
def partB (τ : Tys) (t : TypeId) (cs : List Value) (off : Nat) (B : Value → Bool) : Bool :=
  tyB τ t fun i => bif aggD i.d then B (.agg ((cs.drop off).take i.size).toArray) else (match cs[off]? with | some v => B v | none => false)
theorem partB_spec {τ : Tys} {t : TypeId} {cs : List Value} {off : Nat} {B : Value → Bool} (h : partB τ t cs off B = true) : ∃ v, B v = true ∧ ∀ K : Value → Prop, K v → partC τ t cs off K := by
  obtain ⟨i, hi, hk⟩ := tyB_spec h
  cases hg : aggD i.d with
  | true =>
    rw [hg] at hi
    refine ⟨_, hi, fun K hK => hk _ ?_⟩
    rw [hg]
    simp only [cond_true, forceL_eq]
    exact hK
  | false =>
    rw [hg] at hi
    simp only [cond_false] at hi
    split at hi
    · rename_i v hv
      obtain ⟨hlt, he⟩ := List.getElem?_eq_some_iff.1 hv
      refine ⟨v, hi, fun K hK => hk _ ?_⟩
      rw [hg]
      simp only [cond_false]
      refine ⟨hlt, ?_⟩
      rw [nthK_eq]
      have : cs.getD off undef = v := by simp [List.getD, hv]
      rw [this]
      exact hK
    · cases hi
def selfFs (τ : Tys) (E : TypeId → Value → Bool) (cs : List Value) : List (Nat × Nat) → Bool
  | [] => true
  | f :: fs => partB τ f.2 cs f.1 (E f.2) && selfFs τ E cs fs
def selfAs (τ : Tys) (E : Value → Bool) (e : TypeId) (cs : List Value) (s : Nat) : Nat → Nat → Bool
  | _, 0 => true
  | at_, m + 1 => partB τ e cs (at_ * s) E && selfAs τ E e cs s (at_ + 1) m
def selfE (τ : Tys) : Nat → TypeId → Value → Bool
  | 0, _, _ => false
  | n + 1, t, x => tyB τ t fun i => (match i.d, x with
    | .int _, .int _ _ => true
    | .bool, .bool _ => true
    | .string, .string _ => true
    | .struct _, .agg (Array.mk xs) => i.eq && selfFs τ (selfE τ n) xs i.fs
    | .array len e, .agg (Array.mk xs) => tyB τ e fun j => selfAs τ (selfE τ n e) e xs j.size 0 len
    | _, _ => false)
theorem selfFs_spec {τ : Tys} {n : Nat} {cs : List Value} (hE : ∀ t x (k : DecK), selfE τ n t x = true → (∀ p ip, p → k p ip) → eqT τ n t x x k) :
    ∀ (fs : List (Nat × Nat)) (k : DecK), selfFs τ (selfE τ n) cs fs = true → (∀ p ip, p → k p ip) → eqFs τ (eqT τ n) cs cs fs k
  | [], k, _, hk => hk _ _ trivial
  | [f], k, h, hk => by
    simp only [selfFs, Bool.and_eq_true] at h
    obtain ⟨v, hv, hK⟩ := partB_spec h.1
    exact hK _ (hK _ (hE _ _ _ hv hk))
  | f :: g :: fs, k, h, hk => by
    rw [selfFs, Bool.and_eq_true] at h
    obtain ⟨v, hv, hK⟩ := partB_spec h.1
    exact hK _ (hK _ (hE _ _ _ hv fun p ip hp => selfFs_spec hE (g :: fs) _ h.2 fun q iq hq => hk _ _ ⟨hp, hq⟩))
theorem selfAs_spec {τ : Tys} {n : Nat} {e : TypeId} {s : Nat} {cs : List Value} (hE : ∀ x (k : DecK), selfE τ n e x = true → (∀ p ip, p → k p ip) → eqT τ n e x x k) :
    ∀ (m a : Nat) (k : DecK), selfAs τ (selfE τ n e) e cs s a m = true → (∀ p ip, p → k p ip) → eqAs τ (eqT τ n e) e cs cs s a m k
  | 0, a, k, _, hk => hk _ _ trivial
  | m + 1, a, k, h, hk => by
    rw [selfAs, Bool.and_eq_true] at h
    obtain ⟨v, hv, hK⟩ := partB_spec h.1
    exact hK _ (hK _ (hE _ _ hv fun p ip hp => selfAs_spec hE m (a + 1) _ h.2 fun q iq hq => hk _ _ ⟨hp, hq⟩))
theorem self_spec {τ : Tys} : ∀ (n : Nat) (t : TypeId) (x : Value) (k : DecK), selfE τ n t x = true → (∀ p ip, p → k p ip) → eqT τ n t x x k
  | 0, _, _, _, h, _ => by simp [selfE] at h
  | n + 1, t, x, k, h, hk => by
    rw [selfE] at h
    obtain ⟨i, hi, hK⟩ := tyB_spec h
    rw [eqT]
    refine hK _ ?_
    split at hi
    · rename_i kd j a hd
      rw [hd]
      have : Nat.beq (kindN j) (kindN j) = true := Nat.beq_refl _
      simp only [this, cond_true]
      exact hk _ _ rfl
    · rename_i hd
      rw [hd]
      exact hk _ _ rfl
    · rename_i hd
      rw [hd]
      exact hk _ _ rfl
    · rename_i x0 xs hd
      rw [Bool.and_eq_true] at hi
      rw [hd]
      simp only [hi.1, cond_true]
      exact selfFs_spec (fun t x k h => self_spec n t x k h) _ _ hi.2 hk
    · rename_i len e xs hd
      rw [hd]
      obtain ⟨j, hj, hJ⟩ := tyB_spec hi
      exact hJ _ (selfAs_spec (fun x k h => self_spec n e x k h) _ _ _ hj hk)
    · cases hi
/-- a great struct beside itself -/
theorem Eqs.same {τ : Tys} {t : TypeId} {a : Array Value} {K : Bool → Prop} (h : selfE τ 9 t (.agg a) = true) (k : K true) : Eqs τ t a a K :=
  ⟨self_spec 9 t _ _ h fun p ip hp => by rw [decide_eq_true hp]; exact k⟩
theorem Eqs.is {τ : Tys} {t : TypeId} {a b : Array Value} {K : Bool → Prop} (e : a = b) (h : selfE τ 9 t (.agg a) = true) (k : K true) : Eqs τ t a b K := by subst e; exact Eqs.same h k
end Go.Eng
