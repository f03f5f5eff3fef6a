/- The arbiter of the bus: its tables, and what the bus is at a tick: contracts. -/
import Derived.Test.YtabonallopdgdaaClockNth
import Derived.Test.YtabonallopdgdaaEngMore
set_option linter.all false
namespace Go.Proofs
open Go.Eng
set_option linter.unusedVariables false
set_option maxRecDepth 100000
set_option maxHeartbeats 1000000
/-- a slot: its owner, where it begins, where it ends -/
abbrev Slt := Int × Int × Int
def slE : Enc Slt := ⟨3, fun r => [n64 r.1, n64 r.2.1, n64 r.2.2], (0, 0, 0), fun _ => rfl, by omega, fun _ => rfl⟩
abbrev slV (o f t : Int) : Value := .agg #[n64 o, n64 f, n64 t]
abbrev slB (r : Slt) : Prop := (-9223372036854775808 ≤ r.1 ∧ r.1 ≤ 9223372036854775807) ∧ (-9223372036854775808 ≤ r.2.1 ∧ r.2.1 ≤ 9223372036854775807) ∧ (-9223372036854775808 ≤ r.2.2 ∧ r.2.2 ≤ 9223372036854775807)
/-- its offsets -/
def slP (r : Slt) : Sp := (r.2.1, r.2.2)
abbrev okS (n : Int) (r : Slt) : Prop := 1 ≤ r.1 ∧ r.1 ≤ 8 ∧ 0 ≤ r.2.1 ∧ r.2.1 < r.2.2 ∧ r.2.2 ≤ n
def slOk (n : Int) (xs : List Slt) (k : Nat) : Prop := ∀ i, i < k → okS n (xs.getD i slE.d) ∧ ∀ j, j < i → ¬ meetP (slP (xs.getD j slE.d)) (slP (xs.getD i slE.d))
/-- what is wrong with slots -/
inductive ChkR (n : Int) (xs : List Slt) : Int → Prop where
  | frame (h : ¬ okF n) : ChkR n xs 2
  | bad (h : okF n) (k : Nat) (hk : k < xs.length) (g : slOk n xs k) (b : ¬ okS n (xs.getD k slE.d)) : ChkR n xs 2
  | meet (h : okF n) (k : Nat) (hk : k < xs.length) (g : slOk n xs k) (o : okS n (xs.getD k slE.d)) (j : Nat) (hj : j < k) (m : meetP (slP (xs.getD j slE.d)) (slP (xs.getD k slE.d))) : ChkR n xs 11
  | ok (h : okF n) (g : slOk n xs xs.length) : ChkR n xs 0
theorem slOk_not {n : Int} {xs : List Slt} {k m : Nat} (h : slOk n xs m) (hk : k < m) : okS n (xs.getD k slE.d) ∧ ∀ j, j < k → ¬ meetP (slP (xs.getD j slE.d)) (slP (xs.getD k slE.d)) := h k hk
theorem ChkR.uniq {n : Int} {xs : List Slt} {e e' : Int} (h : ChkR n xs e) (h' : ChkR n xs e') : e = e' := by
  cases h with
  | frame h => cases h' with
    | frame _ => rfl
    | bad _ _ _ _ _ => rfl
    | meet h2 _ _ _ _ _ _ _ => exact (h h2).elim
    | ok h2 _ => exact (h h2).elim
  | bad h k hk g b => cases h' with
    | frame h2 => rfl
    | bad _ _ _ _ _ => rfl
    | meet _ k' hk' g' o' j hj m =>
      rcases Nat.lt_trichotomy k k' with h1 | h1 | h1
      · exact (b (g' k h1).1).elim
      · subst h1; exact (b o').elim
      · exact ((g k' h1).2 j hj m).elim
    | ok _ g' => exact (b (g' k hk).1).elim
  | meet h k hk g o j hj m => cases h' with
    | frame h2 => exact (h2 h).elim
    | bad _ k' hk' g' b' =>
      rcases Nat.lt_trichotomy k k' with h1 | h1 | h1
      · exact ((g' k h1).2 j hj m).elim
      · subst h1; exact (b' o).elim
      · exact (b' (g k' h1).1).elim
    | meet _ _ _ _ _ _ _ _ => rfl
    | ok _ g' => exact ((g' k hk).2 j hj m).elim
  | ok h g => cases h' with
    | frame h2 => exact (h2 h).elim
    | bad _ k' hk' g' b' => exact (b' (g k' hk').1).elim
    | meet _ k' hk' g' o' j hj m => exact ((g k' hk').2 j hj m).elim
    | ok _ _ => rfl
noncomputable def chkF (n : Int) (xs : List Slt) : Int := Classical.epsilon (ChkR n xs)
theorem chkF_eq {n : Int} {xs : List Slt} {e : Int} (h : ChkR n xs e) : chkF n xs = e := (Classical.epsilon_spec (p := ChkR n xs) ⟨e, h⟩).uniq h
theorem Try.slIndex (a : Option Addr) (c : Nat) (xs : List Slt) (L : List HP) (hb : xs.length < 9223372036854775807) (hr : Rd slE L a xs) (g : FuncId) (cs : List Value) (p : Slt → Bool)
    (hg : ∀ o f t, Con Try.prog g (slV o f t :: cs) L (Is (.bool (p (o, f, t))) L)) :
    Con Try.prog 97 [.slice a xs.length c, .func (.func g) #[] cs.toArray] L (Is (.int .i64 (idxF p xs)) L) := by
  refine con_of Try.tysOk Try.func97 rfl rfl ?_
  conv => whnf
  refine Lp.by Try.tysOk [8] (fun k : Nat => [.int .i64 k]) (fun _ => L) (fun k => k ≤ xs.length ∧ ∀ i, i < k → p (xs.getD i slE.d) = false) (fun k => xs.length - k) (0) (by kernel_rfl) (by (exact Ent.rfl)) (⟨by omega, fun i h => by omega⟩) ?_
  rintro k ⟨h1, h2⟩
  conv => whnf
  repeat (intro _; conv => whnf)
  conv => whnf
  repeat' (first
    | ((with_reducible refine Ix.ad ?_ ?_ ?_); (focus (exact Rd.ad (by assumption))); (focus (omega)); conv => whnf)
    | ((with_reducible apply LdN.rdk); (focus ((repeat (assumption)); done)); (focus rfl); (focus rfl); (focus (omega)); conv => whnf)
    | ((with_reducible refine Br.ds (fun _ => ?_) (fun _ => ?_) ) <;> (conv => whnf)))
  · rw [forceL_eq]
    refine Cl.is (hg _ _ _) ?_
    conv => whnf
    repeat' (first
      | ((with_reducible refine Ar.i64 ?_ ?_); (focus omega); conv => whnf)
      | ((with_reducible refine Br.bs (fun _ => ?_) (fun _ => ?_) ) <;> (conv => whnf)))
    · rw [idxF_at slE.d p xs k (by omega) (by assumption) h2]
      exact Is.ent (by (exact Ent.rfl)) Is.rfl
    · refine ⟨k + 1, by kernel_rfl, by (exact Ent.rfl), ⟨by omega, lt_step h2 (by assumption)⟩, by omega⟩
  · rw [idxF_no slE.d p xs (fun i hi => h2 i (by omega))]
    exact Is.ent (by (exact Ent.rfl)) Is.rfl
theorem Try.slContains (a : Option Addr) (c : Nat) (xs : List Slt) (L : List HP) (hb : xs.length < 9223372036854775807) (hr : Rd slE L a xs) (g : FuncId) (cs : List Value) (p : Slt → Bool)
    (hg : ∀ o f t, Con Try.prog g (slV o f t :: cs) L (Is (.bool (p (o, f, t))) L)) :
    Con Try.prog 80 [.slice a xs.length c, .func (.func g) #[] cs.toArray] L (Is (.bool (decide (∃ i, i < xs.length ∧ p (xs.getD i slE.d) = true))) L) := by
  refine con_of Try.tysOk Try.func80 rfl rfl ?_
  conv => whnf
  repeat' ((with_reducible refine Cl.is (Try.slIndex _ _ _ _ hb hr _ _ p hg) ?_); conv => whnf)
  refine Is.ent (by (exact Ent.rfl)) (Is.dec ?_)
  rcases idxF_spec slE.d p xs with ⟨h1, h2⟩ | ⟨m, h1, h2, h3, h4⟩
  · rw [h1]
    exact ⟨fun h => by omega, fun ⟨i, hi, hp⟩ => by rw [h2 i hi] at hp; cases hp⟩
  · rw [h2]
    exact ⟨fun _ => ⟨m, h1, h3⟩, fun _ => by omega⟩
end Go.Proofs
