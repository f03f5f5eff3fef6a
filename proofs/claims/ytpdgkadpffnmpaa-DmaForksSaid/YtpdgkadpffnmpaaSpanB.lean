/- Spans: functions over slices of them. -/
import Derived.Test.YtpdgkadpffnmpaaSpan
set_option linter.all false
namespace Go.Proofs
open Go.Eng
set_option linter.unusedVariables false
set_option maxRecDepth 100000

/-- what is small -/
abbrev smallS (xs : List Sp) : Prop := xs.length ≤ 30 ∧ ∀ x ∈ xs, x.2 ≤ 300
abbrev holdsS (s : Sp) (n : Int) : Prop := 0 ≤ s.1 ∧ s.1 ≤ n ∧ n < s.2
/-! the first two that meet -/
abbrev meetP (s r : Sp) : Prop := meetS s.1 s.2 r.1 r.2
structure FirstP (xs : List Sp) (i k : Nat) : Prop where
  lt : i < k
  le : k < xs.length
  meet : meetP (xs.getD i spE.d) (xs.getD k spE.d)
  row : ∀ j, j < i → ¬ meetP (xs.getD j spE.d) (xs.getD k spE.d)
  rows : ∀ m, m < k → ∀ j, j < m → ¬ meetP (xs.getD j spE.d) (xs.getD m spE.d)
theorem FirstP.uniq {xs : List Sp} {i k j m : Nat} (h : FirstP xs i k) (g : FirstP xs j m) : i = j ∧ k = m := by
  have hk : k = m := by
    rcases Nat.lt_trichotomy k m with h1 | h1 | h1
    · exact (g.rows k h1 i h.lt h.meet).elim
    · exact h1
    · exact (h.rows m h1 j g.lt g.meet).elim
  subst hk
  refine ⟨?_, rfl⟩
  rcases Nat.lt_trichotomy i j with h1 | h1 | h1
  · exact (g.row i h1 h.meet).elim
  · exact h1
  · exact (h.row j h1 g.meet).elim
open Classical in
noncomputable def firstF (xs : List Sp) : Int × Int := if h : ∃ p : Nat × Nat, FirstP xs p.1 p.2 then (h.choose.1, h.choose.2) else (-1, -1)
theorem firstF_some {xs : List Sp} {i k : Nat} (h : FirstP xs i k) : firstF xs = ((i : Int), (k : Int)) := by
  unfold firstF
  have hx : ∃ p : Nat × Nat, FirstP xs p.1 p.2 := ⟨(i, k), h⟩
  rw [dif_pos hx]
  obtain ⟨e1, e2⟩ := hx.choose_spec.uniq h
  rw [e1, e2]
theorem firstF_none {xs : List Sp} (h : ∀ m, m < xs.length → ∀ j, j < m → ¬ meetP (xs.getD j spE.d) (xs.getD m spE.d)) : firstF xs = (-1, -1) := by
  unfold firstF
  rw [dif_neg]
  rintro ⟨⟨i, k⟩, g⟩
  exact h k g.le i g.lt g.meet

/-- slices.IndexFunc: the first place whose element the function is true of (none: -1) -/
def idxF {α : Type} (p : α → Bool) : List α → Int
  | [] => -1
  | x :: xs => if p x then 0 else (if idxF p xs = -1 then -1 else idxF p xs + 1)
theorem idxF_spec {α : Type} (d : α) (p : α → Bool) (xs : List α) : (idxF p xs = -1 ∧ ∀ i, i < xs.length → p (xs.getD i d) = false) ∨
    (∃ k : Nat, k < xs.length ∧ idxF p xs = k ∧ p (xs.getD k d) = true ∧ ∀ i, i < k → p (xs.getD i d) = false) := by
  induction xs with
  | nil => exact .inl ⟨rfl, fun i h => by simp at h⟩
  | cons x xs ih =>
    by_cases hx : p x = true
    · exact .inr ⟨0, by simp, by simp [idxF, hx], by simpa using hx, fun i h => by omega⟩
    · have hx : p x = false := by simpa using hx
      rcases ih with ⟨h1, h2⟩ | ⟨k, h1, h2, h3, h4⟩
      · refine .inl ⟨by simp [idxF, hx, h1], fun i hi => ?_⟩
        cases i with
        | zero => simpa using hx
        | succ i => simpa using h2 i (by simpa using hi)
      · refine .inr ⟨k + 1, by simpa using h1, ?_, by simpa using h3, fun i hi => ?_⟩
        · simp only [idxF, hx, Bool.false_eq_true, if_false]
          rw [if_neg (by omega), h2]; rfl
        · cases i with
          | zero => simpa using hx
          | succ i => simpa using h4 i (by omega)
theorem idxF_at {α : Type} (d : α) (p : α → Bool) (xs : List α) (k : Nat) (hk : k < xs.length) (hp : p (xs.getD k d) = true) (h : ∀ i, i < k → p (xs.getD i d) = false) : idxF p xs = k := by
  rcases idxF_spec d p xs with ⟨_, h2⟩ | ⟨m, h1, h2, h3, h4⟩
  · rw [h2 k hk] at hp; cases hp
  · rcases Nat.lt_trichotomy k m with g | g | g
    · rw [h4 k g] at hp; cases hp
    · rw [g]; exact h2
    · rw [h m g] at h3; cases h3
theorem idxF_no {α : Type} (d : α) (p : α → Bool) (xs : List α) (h : ∀ i, i < xs.length → p (xs.getD i d) = false) : idxF p xs = -1 := by
  rcases idxF_spec d p xs with ⟨h1, _⟩ | ⟨m, h1, h2, h3, h4⟩
  · exact h1
  · rw [h m h1] at h3; cases h3

theorem Try.indexFunc (a : Option Addr) (c : Nat) (xs : List Sp) (L : List HP) (hb : xs.length < 9223372036854775807) (hr : Rd spE L a xs) (g : FuncId) (cs : List Value) (p : Sp → Bool)
    (hg : ∀ f t, Con Try.prog g (spV f t :: cs) L (Is (.bool (p (f, t))) L)) :
    Con Try.prog 53 [.slice a xs.length c, .func (.func g) #[] cs.toArray] L (Is (.int .i64 (idxF p xs)) L) := by
  refine con_of Try.tysOk Try.func53 rfl rfl ?_
  conv => whnf
  refine Lp.by Try.tysOk [8] (fun k : Nat => [.int .i64 k]) (fun _ => L) (fun k => k ≤ xs.length ∧ ∀ i, i < k → p (xs.getD i spE.d) = false) (fun k => xs.length - k) (0) (by kernel_rfl) (by (exact Ent.rfl)) (⟨by omega, fun i h => by omega⟩) ?_
  rintro k ⟨h1, h2⟩
  conv => whnf
  repeat (intro _; conv => whnf)
  conv => whnf
  repeat' (first
    | ((with_reducible refine Ix.ad ?_ ?_ ?_); (focus (exact Rd.ad (by assumption))); (focus (omega)); conv => whnf)
    | ((with_reducible apply LdN.rdk); (focus ((repeat (assumption)); done)); (focus rfl); (focus rfl); (focus (omega)); conv => whnf)
    | ((with_reducible refine Br.ds (fun _ => ?_) (fun _ => ?_) ) <;> (conv => whnf)))
  · rw [forceL_eq]
    refine Cl.is (hg _ _) ?_
    conv => whnf
    repeat' (first
      | ((with_reducible refine Ar.i64 ?_ ?_); (focus omega); conv => whnf)
      | ((with_reducible refine Br.bs (fun _ => ?_) (fun _ => ?_) ) <;> (conv => whnf)))
    · rw [idxF_at spE.d p xs k (by omega) (by assumption) h2]
      exact Is.ent (by (exact Ent.rfl)) Is.rfl
    · refine ⟨k + 1, by kernel_rfl, by (exact Ent.rfl), ⟨by omega, lt_step h2 (by assumption)⟩, by omega⟩
  · rw [idxF_no spE.d p xs (fun i hi => h2 i (by omega))]
    exact Is.ent (by (exact Ent.rfl)) Is.rfl
theorem Try.containsFunc (a : Option Addr) (c : Nat) (xs : List Sp) (L : List HP) (hb : xs.length < 9223372036854775807) (hr : Rd spE L a xs) (g : FuncId) (cs : List Value) (p : Sp → Bool)
    (hg : ∀ f t, Con Try.prog g (spV f t :: cs) L (Is (.bool (p (f, t))) L)) :
    Con Try.prog 45 [.slice a xs.length c, .func (.func g) #[] cs.toArray] L (Is (.bool (decide (∃ x ∈ xs, p x = true))) L) := by
  refine con_of Try.tysOk Try.func45 rfl rfl ?_
  conv => whnf
  repeat' ((with_reducible refine Cl.is (Try.indexFunc _ _ _ _ hb hr _ _ p hg) ?_); conv => whnf)
  refine Is.ent (by (exact Ent.rfl)) (Is.dec ?_)
  rw [ex_iff spE.d]
  rcases idxF_spec spE.d p xs with ⟨h1, h2⟩ | ⟨m, h1, h2, h3, h4⟩
  · rw [h1]
    exact ⟨fun h => by omega, fun ⟨i, hi, hp⟩ => by rw [h2 i hi] at hp; cases hp⟩
  · rw [h2]
    exact ⟨fun _ => ⟨m, h1, h3⟩, fun _ => by omega⟩
theorem Try.first1 (b : Nat) (g u f t : Int) (L : List HP) (t0 : TypeId) (hb : ∃ i : Nat, L[i]? = some (ptc b t0 [.int .i64 g, .int .i64 u])) : Con Try.prog 54 [spV f t, .pointer (some ⟨b, 0, none⟩)] L (Is (.bool (decide (meetP (f, t) (g, u)))) L) := by
  obtain ⟨i, hi⟩ := hb
  refine con_of Try.tysOk Try.func54 rfl rfl ?_
  conv => whnf
  repeat' (first
    | ((with_reducible refine Nd.mk ?_ ?_); (focus (first | omega | rfl | assumption | (simp; done))); conv => whnf)
    | ((with_reducible refine Nc.go' (fun _ => ?_)); conv => whnf)
    | (refine LdN.at 0 rfl (by first | exact Nat.le_of_ble_eq_true rfl | (simp; done)) ?_; conv => whnf)
    | (refine St.at 0 rfl (by first | exact Nat.le_of_ble_eq_true rfl | (simp; done)) rfl ?_; conv => whnf)
    | ((with_reducible refine Cl.is (Try.spanMeet _ _ _ _ _) ?_); conv => whnf)
    | (refine LdN.at (i + 1) (by simpa using hi) (by exact Nat.le_of_ble_eq_true rfl) ?_; conv => whnf))
  (refine Is.ent ?_ ?_; (focus (refine FEnt.ent ?_; (repeat (first | exact FEnt.rfl | refine FEnt.drop ?_)); done)); (exact Is.rfl))
theorem Try.spanFirst (a : Option Addr) (c : Nat) (xs : List Sp) (L : List HP) (hb : xs.length < 9223372036854775807) (hc : xs.length ≤ c) (hr : Rd spE L a xs) :
    Con Try.prog 44 [.slice a xs.length c] L (Is (.tuple #[.int .i64 (firstF xs).1, .int .i64 (firstF xs).2]) L) := by
  refine con_of Try.tysOk Try.func44 rfl rfl ?_
  conv => whnf
  refine Lp.by Try.tysOk [9] (fun k : Nat => [.int .i64 k]) (fun _ => L) (fun k => k ≤ xs.length ∧ ∀ m, m < k → ∀ j, j < m → ¬ meetP (xs.getD j spE.d) (xs.getD m spE.d)) (fun k => xs.length - k) (0) (by kernel_rfl) (by (exact Ent.rfl)) (⟨by omega, fun i h => by omega⟩) ?_
  rintro k ⟨h1, h2⟩
  conv => whnf
  repeat (intro _; conv => whnf)
  conv => whnf
  repeat' (first
    | ((with_reducible refine Ar.i64 ?_ ?_); (focus omega); conv => whnf)
    | ((with_reducible refine Nd.mk ?_ ?_); (focus (first | omega | rfl | assumption | (simp; done))); conv => whnf)
    | ((with_reducible refine Nc.go' (fun _ => ?_)); conv => whnf)
    | ((with_reducible refine Ix.ad ?_ ?_ ?_); (focus (exact Rd.ad (by assumption))); (focus (omega)); conv => whnf)
    | ((with_reducible refine Sub.pre ?_ rfl ?_ ?_ ?_); (focus (first | exact Or.inl rfl | exact Or.inr ⟨_, rfl⟩)); (focus (omega)); (focus (omega)); conv => whnf)
    | ((with_reducible apply LdN.rdk); (focus ((repeat (assumption)); done)); (focus rfl); (focus rfl); (focus (omega)); conv => whnf)
    | (refine St.at 0 rfl (by first | exact Nat.le_of_ble_eq_true rfl | (simp; done)) rfl ?_; conv => whnf)
    | (refine Cl.is (Try.indexFunc a c (xs.take k) _ (by (simp only [List.length_set, List.length_append, List.length_take, List.length_drop, List.length_cons, List.length_nil] at *; omega)) (by ((repeat (first | assumption | apply Rd.cons | refine Rd.take ?_ _)); done)) _ [_] (fun s => decide (meetP s (xs.getD k spE.d))) (fun f t => Try.first1 _ _ _ _ _ _ _ ⟨0, rfl⟩)) ?_; conv => whnf)
    | ((with_reducible refine Br.ds (fun _ => ?_) (fun _ => ?_) ) <;> (conv => whnf)))
  · rename_i h0
    rcases idxF_spec spE.d (fun s => decide (meetP s (xs.getD k spE.d))) (xs.take k) with ⟨g1, g2⟩ | ⟨m, g1, g2, g3, g4⟩
    · rw [show (idxF (fun s => decide (meetP s (xs.getD k spE.d))) (xs.take k)) = -1 from g1] at h0
      omega
    · have hm : m < k := by rw [List.length_take] at g1; omega
      rw [getD_take hm] at g3
      rw [firstF_some (i := m) (k := k) ⟨hm, by omega, of_decide_eq_true g3, fun j hj => by have := g4 j hj; rw [getD_take (by omega)] at this; exact of_decide_eq_false this, h2⟩]
      refine Is.ent (by (refine FEnt.ent ?_; (repeat (first | exact FEnt.rfl | refine FEnt.drop ?_)); done)) (Is.val ?_)
      rw [← g2]
  · rename_i h0
    rcases idxF_spec spE.d (fun s => decide (meetP s (xs.getD k spE.d))) (xs.take k) with ⟨g1, g2⟩ | ⟨m, g1, g2, g3, g4⟩
    · have hrow : ∀ j, j < k → ¬ meetP (xs.getD j spE.d) (xs.getD k spE.d) := fun j hj => by
        have := g2 j (by rw [List.length_take]; omega)
        rw [getD_take hj] at this
        exact of_decide_eq_false this
      refine ⟨k + 1, by kernel_rfl, by (refine FEnt.ent ?_; (repeat (first | exact FEnt.rfl | refine FEnt.drop ?_)); done), ⟨by omega, lt_step h2 hrow⟩, by omega⟩
    · exact (h0 (by show (0 : Int) ≤ idxF _ (xs.take k); rw [g2]; omega)).elim
  · rw [firstF_none (fun m hm => h2 m (by omega))]
    exact Is.ent (by (exact Ent.rfl)) Is.rfl
theorem Try.apart1 (f t : Int) (L : List HP) : Con Try.prog 46 [spV f t] L (Is (.bool (!decide (isS f t))) L) := by
  refine con_of Try.tysOk Try.func46 rfl rfl ?_
  conv => whnf
  repeat' (first
    | ((with_reducible refine Nc.go' (fun _ => ?_)); conv => whnf)
    | (refine LdN.at 0 rfl (by first | exact Nat.le_of_ble_eq_true rfl | (simp; done)) ?_; conv => whnf)
    | ((with_reducible refine Cl.is (Try.spanIs _ _ _) ?_); conv => whnf))
  (refine Is.ent ?_ ?_; (focus (refine FEnt.ent ?_; (repeat (first | exact FEnt.rfl | refine FEnt.drop ?_)); done)); (exact Is.rfl))
/-- are all spans, and none meet? -/
abbrev apartS (xs : List Sp) : Prop := (firstF xs).1 < 0 ∧ ∀ x ∈ xs, isS x.1 x.2
theorem Try.spanApart (a : Option Addr) (c : Nat) (xs : List Sp) (L : List HP) (hb : xs.length < 9223372036854775807) (hc : xs.length ≤ c) (hr : Rd spE L a xs) :
    Con Try.prog 30 [.slice a xs.length c] L (Is (.bool (decide (apartS xs))) L) := by
  refine con_of Try.tysOk Try.func30 rfl rfl ?_
  conv => whnf
  repeat' (first
    | (first | ((with_reducible refine Br.tt ?_); conv => whnf) | ((with_reducible refine Br.ff ?_); conv => whnf))
    | ((with_reducible refine Nd.mk ?_ ?_); (focus (first | omega | rfl | assumption | (simp; done))); conv => whnf)
    | ((with_reducible refine Cl.is (Try.spanFirst _ _ _ _ hb hc hr) ?_); conv => whnf)
    | (refine Cl.is (Try.containsFunc _ _ _ _ hb hr _ [] (fun s => !decide (isS s.1 s.2)) (fun f t => Try.apart1 f t _)) ?_; conv => whnf)
    | ((with_reducible refine Br.ds (fun _ => ?_) (fun _ => ?_) ) <;> (conv => whnf)))
  · refine Is.ent (by (exact Ent.rfl)) (Is.bool ?_)
    rw [← decide_not]
    refine decide_eq_decide.2 ?_
    constructor
    · intro h
      refine ⟨by assumption, fun x hx => ?_⟩
      by_cases g : isS x.1 x.2
      · exact g
      · exact (h ⟨x, hx, by show (!decide (isS x.1 x.2)) = true; rw [decide_eq_false g]; rfl⟩).elim
    · rintro ⟨_, h⟩ ⟨x, hx, hp⟩
      have := h x hx
      simp [this] at hp
  · exact Is.ent (by (exact Ent.rfl)) (Is.ff (by rintro ⟨h, _⟩; omega))
end Go.Proofs
