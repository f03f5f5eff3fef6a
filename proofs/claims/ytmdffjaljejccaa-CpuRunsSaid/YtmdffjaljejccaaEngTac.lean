/- Small lemmas for the side conditions. -/
import Derived.Test.YtmdffjaljejccaaEngList
set_option linter.all false
namespace Go.Eng
/-- so, whatever stands beside -/
def FEnt (L M : List HP) : Prop := ∀ K, Ent (K ++ L) (K ++ M)
theorem FEnt.ent {L M : List HP} (h : FEnt L M) : Ent L M := h []
protected theorem FEnt.rfl {L : List HP} : FEnt L L := fun _ => Ent.rfl
theorem FEnt.at {L M : List HP} {B : HP} (i : Nat) (hi : L[i]? = some B) (h : FEnt (L.eraseIdx i) M) : FEnt L (B :: M) := fun K w s => by
  have hp : (K ++ L).Perm ((K ++ [B]) ++ L.eraseIdx i) := by
    rw [List.append_assoc]
    exact (perm_at L i hi).append_left K
  have := h (K ++ [B]) w (s.perm hp)
  rwa [List.append_assoc] at this
theorem FEnt.drop {L M : List HP} {A : HP} (h : FEnt L M) : FEnt (A :: L) M := fun K w s => h K w (s.sub (List.Sublist.append (List.Sublist.refl _) (List.sublist_cons_self A L)))
theorem FEnt.own0 {α : Type} {E : Enc α} {t : TypeId} {b : Nat} {L M : List HP} (i : Nat) (hi : L[i]? = some (ptc b t [])) (h : FEnt (L.eraseIdx i) M) : FEnt L (own E t (some ⟨b, 0, none⟩) 0 [] :: M) := fun K w s => by
  have s1 := FEnt.at i hi h K w s
  refine (Ent.own (E := E) (L := K ++ M) [] rfl (Nat.zero_le _) w (s1.perm List.perm_middle)).perm List.perm_middle.symm
theorem FEnt.nil {α : Type} {E : Enc α} {t : TypeId} {L M : List HP} (h : FEnt L M) : FEnt L (own E t none 0 [] :: M) := fun K w s =>
  (Ent.nil (E := E) (t := t) w (h K w s)).perm List.perm_middle.symm
/-- two parts as one -/
def star (A B : HP) : HP := fun e h => Parts e [A, B] h
theorem FEnt.star {A B : HP} {L M : List HP} (h : FEnt L (A :: B :: M)) : FEnt L (Eng.star A B :: M) := fun K w s => by
  have s1 := h K w s
  have hp : (K ++ A :: B :: M).Perm ([A, B] ++ (K ++ M)) := by
    have e : K ++ A :: B :: M = (K ++ [A, B]) ++ M := by simp
    rw [e, ← List.append_assoc]
    exact List.perm_append_comm.append_right M
  have s2 : Sat w (Eng.star A B :: (K ++ M)) := (s1.perm hp).shut fun e c hp => hp
  exact s2.perm List.perm_middle.symm
theorem ent_star {A B : HP} {L : List HP} : Ent (Eng.star A B :: L) (A :: B :: L) := fun w s => s.opened (M := [A, B]) fun e c h => h
theorem ent_star1 {A B : HP} : Ent [Eng.star A B] [A] := fun w s => (ent_star w s).sub (by simp)
theorem ent_star2 {A B : HP} : Ent [Eng.star A B] [B] := fun w s => (ent_star w s).sub (by simp)
theorem Rd.hd {α : Type} {E : Enc α} {A : HP} {L : List HP} {a : Option Addr} {xs : List α} (h : Rd E [A] a xs) : Rd E (A :: L) a xs := h.ent fun w s => s.sub (by simp)
theorem Ent.of_eq {L M : List HP} (h : L = M) : Ent L M := h ▸ Ent.rfl
/-! rows, by their places -/
theorem getD_mem {α : Type} {xs : List α} {d : α} {k : Nat} (h : k < xs.length) : xs.getD k d ∈ xs := by
  have : xs.getD k d = xs[k] := by simp [List.getD, h]
  rw [this]; exact List.getElem_mem h
theorem all_iff {α : Type} {xs : List α} (d : α) {p : α → Prop} : (∀ x ∈ xs, p x) ↔ ∀ i, i < xs.length → p (xs.getD i d) := by
  constructor
  · intro h i hi; exact h _ (getD_mem hi)
  · intro h x hx
    obtain ⟨i, hi, rfl⟩ := List.getElem_of_mem hx
    have := h i hi
    simpa [List.getD, hi] using this
theorem ex_iff {α : Type} {xs : List α} (d : α) {p : α → Prop} : (∃ x ∈ xs, p x) ↔ ∃ i, i < xs.length ∧ p (xs.getD i d) := by
  constructor
  · rintro ⟨x, hx, hp⟩
    obtain ⟨i, hi, rfl⟩ := List.getElem_of_mem hx
    exact ⟨i, hi, by simpa [List.getD, hi] using hp⟩
  · rintro ⟨i, hi, hp⟩; exact ⟨_, getD_mem hi, hp⟩
theorem lt_step {p : Nat → Prop} {k : Nat} (h : ∀ i, i < k → p i) (hk : p k) : ∀ i, i < k + 1 → p i := fun i hi => by
  by_cases e : i = k
  · rw [e]; exact hk
  · exact h i (by omega)
theorem ext_getD {α : Type} {xs ys : List α} (d : α) (hl : xs.length = ys.length) (h : ∀ i, i < xs.length → xs.getD i d = ys.getD i d) : xs = ys := by
  refine List.ext_getElem hl fun i h1 h2 => ?_
  have := h i h1
  simpa [List.getD, h1, h2] using this
theorem getD_take {α : Type} {xs : List α} {d : α} {k i : Nat} (h : i < k) : (xs.take k).getD i d = xs.getD i d := by
  simp [List.getD, h]
theorem getD_drop {α : Type} {xs : List α} {d : α} {k i : Nat} : (xs.drop k).getD i d = xs.getD (k + i) d := by
  simp [List.getD, List.getElem?_drop]
theorem getD_mid {α : Type} {P Q : List α} {y d : α} {k : Nat} (h : k = P.length) : (P ++ y :: Q).getD k d = y := by
  subst h; simp [List.getD]
theorem set_mid {α : Type} {P Q : List α} {y z : α} {k : Nat} (h : k = P.length) : (P ++ y :: Q).set k z = P ++ z :: Q := by
  subst h; simp
end Go.Eng
