/- The library's insertion sort, of spans. -/
import Derived.Test.YtdjpcfaidgofoaaGreatEngList
import Derived.Test.YtdjpcfaidgofoaaGreatTys
set_option linter.all false
namespace Go.Proofs
open Go.Eng
set_option linter.unusedVariables false
set_option maxRecDepth 100000

abbrev Sp := Int × Int
abbrev spV (f t : Int) : Value := .agg #[.int .i64 f, .int .i64 t]
def spE : Enc Sp := ⟨2, fun s => [.int .i64 s.1, .int .i64 s.2], (0, 0), fun _ => rfl, by omega, fun _ => rfl⟩
abbrev isS (f t : Int) : Prop := 0 ≤ f ∧ f < t

theorem Tryz.spanIs (f t : Int) (L : List HP) : Con Tryz.prog 160 [spV f t] L (Is (.bool (decide (isS f t))) L) := by
  refine con_of Tryz.tysOk Tryz.func160 rfl rfl ?_
  conv => whnf
  repeat' (first
    | (first | ((with_reducible refine Br.tt ?_); conv => whnf) | ((with_reducible refine Br.ff ?_); conv => whnf))
    | ((with_reducible refine Nc.go' (fun _ => ?_)); conv => whnf)
    | (refine Ld.at 0 rfl rfl ?_; conv => whnf)
    | ((with_reducible refine Br.ds (fun _ => ?_) (fun _ => ?_) ) <;> (conv => whnf)))
  all_goals (refine Is.ent ?_ ?_; (focus (refine FEnt.ent ?_; (repeat (first | exact FEnt.rfl | refine FEnt.drop ?_)); done)); (first | exact Is.ff (by omega) | (refine Is.dec ?_; omega)))
theorem Tryz.spanHolds (f t n : Int) (L : List HP) : Con Tryz.prog 151 [spV f t, .int .i64 n] L (Is (.bool (decide (isS f t ∧ f ≤ n ∧ n < t))) L) := by
  refine con_of Tryz.tysOk Tryz.func151 rfl rfl ?_
  conv => whnf
  repeat' (first
    | (first | ((with_reducible refine Br.tt ?_); conv => whnf) | ((with_reducible refine Br.ff ?_); conv => whnf))
    | ((with_reducible refine Nc.go' (fun _ => ?_)); conv => whnf)
    | (refine Ld.at 0 rfl rfl ?_; conv => whnf)
    | (refine LdN.at 0 rfl (by first | exact Nat.le_of_ble_eq_true rfl | (simp; done)) ?_; conv => whnf)
    | ((with_reducible refine Cl.is (Tryz.spanIs _ _ _) ?_); conv => whnf)
    | ((with_reducible refine Br.ds (fun _ => ?_) (fun _ => ?_) ) <;> (conv => whnf)))
  all_goals (refine Is.ent ?_ ?_; (focus (refine FEnt.ent ?_; (repeat (first | exact FEnt.rfl | refine FEnt.drop ?_)); done)); (first | exact Is.ff (by omega) | (refine Is.dec ?_; omega)))
theorem Tryz.spanIn (f t n : Int) (L : List HP) : Con Tryz.prog 130 [spV f t, .int .i64 n] L (Is (.bool (decide (isS f t ∧ t ≤ n))) L) := by
  refine con_of Tryz.tysOk Tryz.func130 rfl rfl ?_
  conv => whnf
  repeat' (first
    | (first | ((with_reducible refine Br.tt ?_); conv => whnf) | ((with_reducible refine Br.ff ?_); conv => whnf))
    | ((with_reducible refine Nc.go' (fun _ => ?_)); conv => whnf)
    | (refine Ld.at 0 rfl rfl ?_; conv => whnf)
    | (refine LdN.at 0 rfl (by first | exact Nat.le_of_ble_eq_true rfl | (simp; done)) ?_; conv => whnf)
    | ((with_reducible refine Cl.is (Tryz.spanIs _ _ _) ?_); conv => whnf)
    | ((with_reducible refine Br.ds (fun _ => ?_) (fun _ => ?_) ) <;> (conv => whnf)))
  all_goals (refine Is.ent ?_ ?_; (focus (refine FEnt.ent ?_; (repeat (first | exact FEnt.rfl | refine FEnt.drop ?_)); done)); (first | exact Is.ff (by omega) | (refine Is.dec ?_; omega)))
theorem Tryz.refHolds (f t n : Int) (L : List HP) : Con Tryz.prog 91 [spV f t, .int .i64 n] L (Is (.bool (decide (0 ≤ f ∧ f ≤ n ∧ n < t))) L) := by
  refine con_of Tryz.tysOk Tryz.func91 rfl rfl ?_
  conv => whnf
  repeat' (first
    | (first | ((with_reducible refine Br.tt ?_); conv => whnf) | ((with_reducible refine Br.ff ?_); conv => whnf))
    | ((with_reducible refine Nc.go' (fun _ => ?_)); conv => whnf)
    | (refine Ld.at 0 rfl rfl ?_; conv => whnf)
    | ((with_reducible refine Br.ds (fun _ => ?_) (fun _ => ?_) ) <;> (conv => whnf)))
  all_goals (refine Is.ent ?_ ?_; (focus (refine FEnt.ent ?_; (repeat (first | exact FEnt.rfl | refine FEnt.drop ?_)); done)); (first | exact Is.ff (by omega) | (refine Is.dec ?_; omega)))
theorem Tryz.refIs (f t : Int) (L : List HP) : Con Tryz.prog 90 [spV f t] L (Is (.bool (decide (isS f t))) L) := by
  refine con_of Tryz.tysOk Tryz.func90 rfl rfl ?_
  conv => whnf
  repeat' (first
    | ((with_reducible refine Nc.go' (fun _ => ?_)); conv => whnf)
    | (refine Ld.at 0 rfl rfl ?_; conv => whnf)
    | (refine LdN.at 0 rfl (by first | exact Nat.le_of_ble_eq_true rfl | (simp; done)) ?_; conv => whnf)
    | ((with_reducible refine Cl.is (Tryz.refHolds _ _ _ _) ?_); conv => whnf))
  all_goals (refine Is.ent ?_ ?_; (focus (refine FEnt.ent ?_; (repeat (first | exact FEnt.rfl | refine FEnt.drop ?_)); done)); (refine Is.dec ?_; omega))
/-- do two spans meet? -/
abbrev meetS (f t g u : Int) : Prop := isS f t ∧ isS g u ∧ f < u ∧ g < t
theorem Tryz.spanMeet (f t g u : Int) (L : List HP) : Con Tryz.prog 101 [spV f t, spV g u] L
    (Is (.tuple #[spV (if meetS f t g u then max f g else 0) (if meetS f t g u then min t u else 0), .bool (decide (meetS f t g u))]) L) := by
  refine con_of Tryz.tysOk Tryz.func101 rfl rfl ?_
  conv => whnf
  repeat' (first
    | (first | ((with_reducible refine Br.tt ?_); conv => whnf) | ((with_reducible refine Br.ff ?_); conv => whnf))
    | ((with_reducible refine Nd.mk ?_ ?_); (focus (first | omega | rfl | assumption | (simp; done))); conv => whnf)
    | ((with_reducible refine Nc.go' (fun _ => ?_)); conv => whnf)
    | (first | (refine Ld.at 1 rfl rfl ?_; conv => whnf) | (refine Ld.at 2 rfl rfl ?_; conv => whnf))
    | (first | (refine LdN.at 0 rfl (by first | exact Nat.le_of_ble_eq_true rfl | (simp; done)) ?_; conv => whnf) | (refine LdN.at 1 rfl (by first | exact Nat.le_of_ble_eq_true rfl | (simp; done)) ?_; conv => whnf) | (refine LdN.at 2 rfl (by first | exact Nat.le_of_ble_eq_true rfl | (simp; done)) ?_; conv => whnf))
    | (first | (refine St.at 0 rfl (by first | exact Nat.le_of_ble_eq_true rfl | (simp; done)) rfl ?_; conv => whnf) | (refine St.at 1 rfl (by first | exact Nat.le_of_ble_eq_true rfl | (simp; done)) rfl ?_; conv => whnf))
    | ((with_reducible refine Cl.is (Tryz.spanIs _ _ _) ?_); conv => whnf)
    | ((with_reducible refine Br.nds (fun _ => ?_) (fun _ => ?_) ) <;> (conv => whnf)))
  all_goals (refine Is.ent ?_ ?_; (focus (refine FEnt.ent ?_; (repeat (first | exact FEnt.rfl | refine FEnt.drop ?_)); done)); (skip))
  · exact Is.val (by rw [if_neg (by omega), if_neg (by omega), decide_eq_false (by omega)]; rfl)
  · exact Is.val (by rw [if_neg (by omega), if_neg (by omega), decide_eq_false (by omega)]; rfl)
  · exact Is.val (by rw [if_neg (by omega), if_neg (by omega), decide_eq_false (by omega)]; rfl)
  · exact Is.val (by rw [if_pos (by omega), if_pos (by omega), decide_eq_true (by omega)]; rfl)
theorem Tryz.spanMeetT (f t g u : Int) (L : List HP) (h : meetS f t g u) : Con Tryz.prog 101 [spV f t, spV g u] L (Is (.tuple #[spV (max f g) (min t u), .bool true]) L) := by
  have := Tryz.spanMeet f t g u L
  rwa [if_pos h, if_pos h, decide_eq_true h] at this
theorem Tryz.spanMeetF (f t g u : Int) (L : List HP) (h : ¬ meetS f t g u) : Con Tryz.prog 101 [spV f t, spV g u] L (Is (.tuple #[spV 0 0, .bool false]) L) := by
  have := Tryz.spanMeet f t g u L
  rwa [if_neg h, if_neg h, decide_eq_false h] at this
theorem Tryz.refMeets (f t g u : Int) (L : List HP) : Con Tryz.prog 45 [spV f t, spV g u] L (Is (.bool (decide (meetS f t g u))) L) := by
  refine con_of Tryz.tysOk Tryz.func45 rfl rfl ?_
  conv => whnf
  repeat' (first
    | (first | ((with_reducible refine Br.tt ?_); conv => whnf) | ((with_reducible refine Br.ff ?_); conv => whnf))
    | ((with_reducible refine Nc.go' (fun _ => ?_)); conv => whnf)
    | (first | (refine Ld.at 0 rfl rfl ?_; conv => whnf) | (refine Ld.at 1 rfl rfl ?_; conv => whnf))
    | (first | (refine LdN.at 0 rfl (by first | exact Nat.le_of_ble_eq_true rfl | (simp; done)) ?_; conv => whnf) | (refine LdN.at 1 rfl (by first | exact Nat.le_of_ble_eq_true rfl | (simp; done)) ?_; conv => whnf))
    | (first | ((with_reducible refine Cl.is (Tryz.refIs _ _ _) ?_); conv => whnf) | ((with_reducible refine Cl.is (Tryz.refHolds _ _ _ _) ?_); conv => whnf))
    | ((with_reducible refine Br.ds (fun _ => ?_) (fun _ => ?_) ) <;> (conv => whnf)))
  all_goals (refine Is.ent ?_ ?_; (focus (refine FEnt.ent ?_; (repeat (first | exact FEnt.rfl | refine FEnt.drop ?_)); done)); (first | exact Is.tt (by omega) | exact Is.ff (by omega) | (refine Is.dec ?_; omega)))
/-- the order of the sort -/
def cmpI (a b : Int) : Int := if a < b then -1 else if b < a then 1 else 0
def spC (f t g u : Int) : Int := if cmpI f g = 0 then cmpI t u else cmpI f g
abbrev ltS (x y : Sp) : Prop := x.1 < y.1 ∨ x.1 = y.1 ∧ x.2 < y.2
abbrev leS (x y : Sp) : Prop := ¬ ltS y x
theorem spC_lt (f t g u : Int) : spC f t g u < 0 ↔ ltS (f, t) (g, u) := by
  unfold spC cmpI ltS
  simp only
  repeat' split
  all_goals omega
end Go.Proofs
set_option linter.all false
namespace Go.Proofs
open Go.Eng
set_option linter.unusedVariables false
set_option maxRecDepth 100000

/-- what is small -/
abbrev smallS (xs : List Sp) : Prop := xs.length ≤ 30 ∧ ∀ x ∈ xs, x.2 ≤ 300
abbrev holdsS (s : Sp) (n : Int) : Prop := 0 ≤ s.1 ∧ s.1 ≤ n ∧ n < s.2
/-! the first two that meet -/
abbrev meetP (s r : Sp) : Prop := meetS s.1 s.2 r.1 r.2
structure FirstP (xs : List Sp) (i k : Nat) : Prop where
  lt : i < k
  le : k < xs.length
  meet : meetP (xs.getD i spE.d) (xs.getD k spE.d)
  row : ∀ j, j < i → ¬ meetP (xs.getD j spE.d) (xs.getD k spE.d)
  rows : ∀ m, m < k → ∀ j, j < m → ¬ meetP (xs.getD j spE.d) (xs.getD m spE.d)
theorem FirstP.uniq {xs : List Sp} {i k j m : Nat} (h : FirstP xs i k) (g : FirstP xs j m) : i = j ∧ k = m := by
  have hk : k = m := by
    rcases Nat.lt_trichotomy k m with h1 | h1 | h1
    · exact (g.rows k h1 i h.lt h.meet).elim
    · exact h1
    · exact (h.rows m h1 j g.lt g.meet).elim
  subst hk
  refine ⟨?_, rfl⟩
  rcases Nat.lt_trichotomy i j with h1 | h1 | h1
  · exact (g.row i h1 h.meet).elim
  · exact h1
  · exact (h.row j h1 g.meet).elim
open Classical in
noncomputable def firstF (xs : List Sp) : Int × Int := if h : ∃ p : Nat × Nat, FirstP xs p.1 p.2 then (h.choose.1, h.choose.2) else (-1, -1)
theorem firstF_some {xs : List Sp} {i k : Nat} (h : FirstP xs i k) : firstF xs = ((i : Int), (k : Int)) := by
  unfold firstF
  have hx : ∃ p : Nat × Nat, FirstP xs p.1 p.2 := ⟨(i, k), h⟩
  rw [dif_pos hx]
  obtain ⟨e1, e2⟩ := hx.choose_spec.uniq h
  rw [e1, e2]
theorem firstF_none {xs : List Sp} (h : ∀ m, m < xs.length → ∀ j, j < m → ¬ meetP (xs.getD j spE.d) (xs.getD m spE.d)) : firstF xs = (-1, -1) := by
  unfold firstF
  rw [dif_neg]
  rintro ⟨⟨i, k⟩, g⟩
  exact h k g.le i g.lt g.meet

/-- slices.IndexFunc: the first place whose element the function is true of (none: -1) -/
def idxF {α : Type} (p : α → Bool) : List α → Int
  | [] => -1
  | x :: xs => if p x then 0 else (if idxF p xs = -1 then -1 else idxF p xs + 1)
theorem idxF_spec {α : Type} (d : α) (p : α → Bool) (xs : List α) : (idxF p xs = -1 ∧ ∀ i, i < xs.length → p (xs.getD i d) = false) ∨
    (∃ k : Nat, k < xs.length ∧ idxF p xs = k ∧ p (xs.getD k d) = true ∧ ∀ i, i < k → p (xs.getD i d) = false) := by
  induction xs with
  | nil => exact .inl ⟨rfl, fun i h => by simp at h⟩
  | cons x xs ih =>
    by_cases hx : p x = true
    · exact .inr ⟨0, by simp, by simp [idxF, hx], by simpa using hx, fun i h => by omega⟩
    · have hx : p x = false := by simpa using hx
      rcases ih with ⟨h1, h2⟩ | ⟨k, h1, h2, h3, h4⟩
      · refine .inl ⟨by simp [idxF, hx, h1], fun i hi => ?_⟩
        cases i with
        | zero => simpa using hx
        | succ i => simpa using h2 i (by simpa using hi)
      · refine .inr ⟨k + 1, by simpa using h1, ?_, by simpa using h3, fun i hi => ?_⟩
        · simp only [idxF, hx, Bool.false_eq_true, if_false]
          rw [if_neg (by omega), h2]; rfl
        · cases i with
          | zero => simpa using hx
          | succ i => simpa using h4 i (by omega)
theorem idxF_at {α : Type} (d : α) (p : α → Bool) (xs : List α) (k : Nat) (hk : k < xs.length) (hp : p (xs.getD k d) = true) (h : ∀ i, i < k → p (xs.getD i d) = false) : idxF p xs = k := by
  rcases idxF_spec d p xs with ⟨_, h2⟩ | ⟨m, h1, h2, h3, h4⟩
  · rw [h2 k hk] at hp; cases hp
  · rcases Nat.lt_trichotomy k m with g | g | g
    · rw [h4 k g] at hp; cases hp
    · rw [g]; exact h2
    · rw [h m g] at h3; cases h3
theorem idxF_no {α : Type} (d : α) (p : α → Bool) (xs : List α) (h : ∀ i, i < xs.length → p (xs.getD i d) = false) : idxF p xs = -1 := by
  rcases idxF_spec d p xs with ⟨h1, _⟩ | ⟨m, h1, h2, h3, h4⟩
  · exact h1
  · rw [h m h1] at h3; cases h3

theorem Tryz.indexFunc (a : Option Addr) (c : Nat) (xs : List Sp) (L : List HP) (hb : xs.length < 9223372036854775807) (hr : Rd spE L a xs) (g : FuncId) (cs : List Value) (p : Sp → Bool)
    (hg : ∀ f t, Con Tryz.prog g (spV f t :: cs) L (Is (.bool (p (f, t))) L)) :
    Con Tryz.prog 192 [.slice a xs.length c, .func (.func g) #[] cs.toArray] L (Is (.int .i64 (idxF p xs)) L) := by
  refine con_of Tryz.tysOk Tryz.func192 rfl rfl ?_
  conv => whnf
  refine Lp.by Tryz.tysOk [8] (fun k : Nat => [.int .i64 k]) (fun _ => L) (fun k => k ≤ xs.length ∧ ∀ i, i < k → p (xs.getD i spE.d) = false) (fun k => xs.length - k) (0) (by kernel_rfl) (by (exact Ent.rfl)) (⟨by omega, fun i h => by omega⟩) ?_
  rintro k ⟨h1, h2⟩
  conv => whnf
  repeat (intro _; conv => whnf)
  conv => whnf
  repeat' (first
    | ((with_reducible refine Ix.ad ?_ ?_ ?_); (focus (exact Rd.ad (by assumption))); (focus (omega)); conv => whnf)
    | ((with_reducible apply LdN.rdk); (focus ((repeat (assumption)); done)); (focus rfl); (focus rfl); (focus (omega)); conv => whnf)
    | ((with_reducible refine Br.ds (fun _ => ?_) (fun _ => ?_) ) <;> (conv => whnf)))
  · rw [forceL_eq]
    refine Cl.is (hg _ _) ?_
    conv => whnf
    repeat' (first
      | ((with_reducible refine Ar.i64 ?_ ?_); (focus omega); conv => whnf)
      | ((with_reducible refine Br.bs (fun _ => ?_) (fun _ => ?_) ) <;> (conv => whnf)))
    · rw [idxF_at spE.d p xs k (by omega) (by assumption) h2]
      exact Is.ent (by (exact Ent.rfl)) Is.rfl
    · refine ⟨k + 1, by kernel_rfl, by (exact Ent.rfl), ⟨by omega, lt_step h2 (by assumption)⟩, by omega⟩
  · rw [idxF_no spE.d p xs (fun i hi => h2 i (by omega))]
    exact Is.ent (by (exact Ent.rfl)) Is.rfl
theorem Tryz.containsFunc (a : Option Addr) (c : Nat) (xs : List Sp) (L : List HP) (hb : xs.length < 9223372036854775807) (hr : Rd spE L a xs) (g : FuncId) (cs : List Value) (p : Sp → Bool)
    (hg : ∀ f t, Con Tryz.prog g (spV f t :: cs) L (Is (.bool (p (f, t))) L)) :
    Con Tryz.prog 167 [.slice a xs.length c, .func (.func g) #[] cs.toArray] L (Is (.bool (decide (∃ x ∈ xs, p x = true))) L) := by
  refine con_of Tryz.tysOk Tryz.func167 rfl rfl ?_
  conv => whnf
  repeat' ((with_reducible refine Cl.is (Tryz.indexFunc _ _ _ _ hb hr _ _ p hg) ?_); conv => whnf)
  refine Is.ent (by (exact Ent.rfl)) (Is.dec ?_)
  rw [ex_iff spE.d]
  rcases idxF_spec spE.d p xs with ⟨h1, h2⟩ | ⟨m, h1, h2, h3, h4⟩
  · rw [h1]
    exact ⟨fun h => by omega, fun ⟨i, hi, hp⟩ => by rw [h2 i hi] at hp; cases hp⟩
  · rw [h2]
    exact ⟨fun _ => ⟨m, h1, h3⟩, fun _ => by omega⟩
theorem Tryz.first1 (b : Nat) (g u f t : Int) (L : List HP) (t0 : TypeId) (hb : ∃ i : Nat, L[i]? = some (ptc b t0 [.int .i64 g, .int .i64 u])) : Con Tryz.prog 193 [spV f t, .pointer (some ⟨b, 0, none⟩)] L (Is (.bool (decide (meetP (f, t) (g, u)))) L) := by
  obtain ⟨i, hi⟩ := hb
  refine con_of Tryz.tysOk Tryz.func193 rfl rfl ?_
  conv => whnf
  repeat' (first
    | ((with_reducible refine Nd.mk ?_ ?_); (focus (first | omega | rfl | assumption | (simp; done))); conv => whnf)
    | ((with_reducible refine Nc.go' (fun _ => ?_)); conv => whnf)
    | (refine LdN.at 0 rfl (by first | exact Nat.le_of_ble_eq_true rfl | (simp; done)) ?_; conv => whnf)
    | (refine St.at 0 rfl (by first | exact Nat.le_of_ble_eq_true rfl | (simp; done)) rfl ?_; conv => whnf)
    | ((with_reducible refine Cl.is (Tryz.spanMeet _ _ _ _ _) ?_); conv => whnf)
    | (refine LdN.at (i + 1) (by simpa using hi) (by exact Nat.le_of_ble_eq_true rfl) ?_; conv => whnf))
  (refine Is.ent ?_ ?_; (focus (refine FEnt.ent ?_; (repeat (first | exact FEnt.rfl | refine FEnt.drop ?_)); done)); (exact Is.rfl))
theorem Tryz.spanFirst (a : Option Addr) (c : Nat) (xs : List Sp) (L : List HP) (hb : xs.length < 9223372036854775807) (hc : xs.length ≤ c) (hr : Rd spE L a xs) :
    Con Tryz.prog 166 [.slice a xs.length c] L (Is (.tuple #[.int .i64 (firstF xs).1, .int .i64 (firstF xs).2]) L) := by
  refine con_of Tryz.tysOk Tryz.func166 rfl rfl ?_
  conv => whnf
  refine Lp.by Tryz.tysOk [9] (fun k : Nat => [.int .i64 k]) (fun _ => L) (fun k => k ≤ xs.length ∧ ∀ m, m < k → ∀ j, j < m → ¬ meetP (xs.getD j spE.d) (xs.getD m spE.d)) (fun k => xs.length - k) (0) (by kernel_rfl) (by (exact Ent.rfl)) (⟨by omega, fun i h => by omega⟩) ?_
  rintro k ⟨h1, h2⟩
  conv => whnf
  repeat (intro _; conv => whnf)
  conv => whnf
  repeat' (first
    | ((with_reducible refine Ar.i64 ?_ ?_); (focus omega); conv => whnf)
    | ((with_reducible refine Nd.mk ?_ ?_); (focus (first | omega | rfl | assumption | (simp; done))); conv => whnf)
    | ((with_reducible refine Nc.go' (fun _ => ?_)); conv => whnf)
    | ((with_reducible refine Ix.ad ?_ ?_ ?_); (focus (exact Rd.ad (by assumption))); (focus (omega)); conv => whnf)
    | ((with_reducible refine Sub.pre ?_ rfl ?_ ?_ ?_); (focus (first | exact Or.inl rfl | exact Or.inr ⟨_, rfl⟩)); (focus (omega)); (focus (omega)); conv => whnf)
    | ((with_reducible apply LdN.rdk); (focus ((repeat (assumption)); done)); (focus rfl); (focus rfl); (focus (omega)); conv => whnf)
    | (refine St.at 0 rfl (by first | exact Nat.le_of_ble_eq_true rfl | (simp; done)) rfl ?_; conv => whnf)
    | (refine Cl.is (Tryz.indexFunc a c (xs.take k) _ (by (simp only [List.length_set, List.length_append, List.length_take, List.length_drop, List.length_cons, List.length_nil] at *; omega)) (by ((repeat (first | assumption | apply Rd.cons | refine Rd.take ?_ _)); done)) _ [_] (fun s => decide (meetP s (xs.getD k spE.d))) (fun f t => Tryz.first1 _ _ _ _ _ _ _ ⟨0, rfl⟩)) ?_; conv => whnf)
    | ((with_reducible refine Br.ds (fun _ => ?_) (fun _ => ?_) ) <;> (conv => whnf)))
  · rename_i h0
    rcases idxF_spec spE.d (fun s => decide (meetP s (xs.getD k spE.d))) (xs.take k) with ⟨g1, g2⟩ | ⟨m, g1, g2, g3, g4⟩
    · rw [show (idxF (fun s => decide (meetP s (xs.getD k spE.d))) (xs.take k)) = -1 from g1] at h0
      omega
    · have hm : m < k := by rw [List.length_take] at g1; omega
      rw [getD_take hm] at g3
      rw [firstF_some (i := m) (k := k) ⟨hm, by omega, of_decide_eq_true g3, fun j hj => by have := g4 j hj; rw [getD_take (by omega)] at this; exact of_decide_eq_false this, h2⟩]
      refine Is.ent (by (refine FEnt.ent ?_; (repeat (first | exact FEnt.rfl | refine FEnt.drop ?_)); done)) (Is.val ?_)
      rw [← g2]
  · rename_i h0
    rcases idxF_spec spE.d (fun s => decide (meetP s (xs.getD k spE.d))) (xs.take k) with ⟨g1, g2⟩ | ⟨m, g1, g2, g3, g4⟩
    · have hrow : ∀ j, j < k → ¬ meetP (xs.getD j spE.d) (xs.getD k spE.d) := fun j hj => by
        have := g2 j (by rw [List.length_take]; omega)
        rw [getD_take hj] at this
        exact of_decide_eq_false this
      refine ⟨k + 1, by kernel_rfl, by (refine FEnt.ent ?_; (repeat (first | exact FEnt.rfl | refine FEnt.drop ?_)); done), ⟨by omega, lt_step h2 hrow⟩, by omega⟩
    · exact (h0 (by show (0 : Int) ≤ idxF _ (xs.take k); rw [g2]; omega)).elim
  · rw [firstF_none (fun m hm => h2 m (by omega))]
    exact Is.ent (by (exact Ent.rfl)) Is.rfl
theorem Tryz.apart1 (f t : Int) (L : List HP) : Con Tryz.prog 168 [spV f t] L (Is (.bool (!decide (isS f t))) L) := by
  refine con_of Tryz.tysOk Tryz.func168 rfl rfl ?_
  conv => whnf
  repeat' (first
    | ((with_reducible refine Nc.go' (fun _ => ?_)); conv => whnf)
    | (refine LdN.at 0 rfl (by first | exact Nat.le_of_ble_eq_true rfl | (simp; done)) ?_; conv => whnf)
    | ((with_reducible refine Cl.is (Tryz.spanIs _ _ _) ?_); conv => whnf))
  (refine Is.ent ?_ ?_; (focus (refine FEnt.ent ?_; (repeat (first | exact FEnt.rfl | refine FEnt.drop ?_)); done)); (exact Is.rfl))
/-- are all spans, and none meet? -/
abbrev apartS (xs : List Sp) : Prop := (firstF xs).1 < 0 ∧ ∀ x ∈ xs, isS x.1 x.2
theorem Tryz.spanApart (a : Option Addr) (c : Nat) (xs : List Sp) (L : List HP) (hb : xs.length < 9223372036854775807) (hc : xs.length ≤ c) (hr : Rd spE L a xs) :
    Con Tryz.prog 128 [.slice a xs.length c] L (Is (.bool (decide (apartS xs))) L) := by
  refine con_of Tryz.tysOk Tryz.func128 rfl rfl ?_
  conv => whnf
  repeat' (first
    | (first | ((with_reducible refine Br.tt ?_); conv => whnf) | ((with_reducible refine Br.ff ?_); conv => whnf))
    | ((with_reducible refine Nd.mk ?_ ?_); (focus (first | omega | rfl | assumption | (simp; done))); conv => whnf)
    | ((with_reducible refine Cl.is (Tryz.spanFirst _ _ _ _ hb hc hr) ?_); conv => whnf)
    | (refine Cl.is (Tryz.containsFunc _ _ _ _ hb hr _ [] (fun s => !decide (isS s.1 s.2)) (fun f t => Tryz.apart1 f t _)) ?_; conv => whnf)
    | ((with_reducible refine Br.ds (fun _ => ?_) (fun _ => ?_) ) <;> (conv => whnf)))
  · refine Is.ent (by (exact Ent.rfl)) (Is.bool ?_)
    rw [← decide_not]
    refine decide_eq_decide.2 ?_
    constructor
    · intro h
      refine ⟨by assumption, fun x hx => ?_⟩
      by_cases g : isS x.1 x.2
      · exact g
      · exact (h ⟨x, hx, by show (!decide (isS x.1 x.2)) = true; rw [decide_eq_false g]; rfl⟩).elim
    · rintro ⟨_, h⟩ ⟨x, hx, hp⟩
      have := h x hx
      simp [this] at hp
  · exact Is.ent (by (exact Ent.rfl)) (Is.ff (by rintro ⟨h, _⟩; omega))
end Go.Proofs
set_option linter.all false
namespace Go.Proofs
open Go.Eng
set_option linter.unusedVariables false
set_option maxRecDepth 100000

/-- what a function gives that turns a row in place -/
structure Turns {α : Type} (E : Enc α) (t : TypeId) (a : Option Addr) (c : Nat) (R : List α → Prop) (L : List HP) (v : Value) (L' : List HP) : Prop where
  is : v = .tuple #[] ∧ ∃ ys, R ys ∧ Ent L' (own E t a c ys :: L)
theorem Cl.turns {P : Program} {α : Type} {E : Enc α} {t : TypeId} {a : Option Addr} {c : Nat} {R : List α → Prop} {L M : List HP} {f : FuncId} {args : List Value} {K : Value → List HP → Prop} {X : List PanicEntry → List HP → Prop}
    (h : Con P f args L (Turns E t a c R M)) (k : ∀ ys, R ys → K (.tuple #[]) (own E t a c ys :: M)) : Cl P f args L K X :=
  ⟨⟨h.ent, fun w s => (h.run w s).mono fun e w' => by
    cases e with
    | returned v => rintro ⟨L', s', ⟨rfl, ys, hR, he⟩⟩; exact ⟨_, he _ s', k ys hR⟩
    | panicked ch => rintro ⟨L', s', r⟩; exact r.elim
    | outgrown => exact id⟩⟩
theorem Turns.of {α : Type} {E : Enc α} {t : TypeId} {a : Option Addr} {c : Nat} {R : List α → Prop} {L L' : List HP} (ys : List α) (hR : R ys) (h : Ent L' (own E t a c ys :: L)) : Turns E t a c R L (.tuple #[]) L' := ⟨rfl, ys, hR, h⟩

theorem get_some {xs : List Sp} {k : Nat} {d : Sp} (h : k < xs.length) : xs[k]? = some (xs.getD k d) := by simp [List.getD, h]
theorem swp_step {xs zs : List Sp} {p n m i : Nat} {d : Sp} (hz : zs.length = xs.length) (hlt : p + n + m + n ≤ xs.length) (hi : i < n)
    (h3 : ∀ q, zs[q]? = if p ≤ q ∧ q < p + i then xs[q + n + m]? else if p + n + m ≤ q ∧ q < p + n + m + i then xs[q - n - m]? else xs[q]?) :
    ∀ q, ((zs.set (p + i) (zs.getD (p + n + m + i) d)).set (p + n + m + i) (zs.getD (p + i) d))[q]? = if p ≤ q ∧ q < p + (i + 1) then xs[q + n + m]? else if p + n + m ≤ q ∧ q < p + n + m + (i + 1) then xs[q - n - m]? else xs[q]? := by
  intro q
  have e1 : some (zs.getD (p + n + m + i) d) = xs[p + n + m + i]? := by rw [← get_some (by omega), h3, if_neg (by omega), if_neg (by omega)]
  have e2 : some (zs.getD (p + i) d) = xs[p + i]? := by rw [← get_some (by omega), h3, if_neg (by omega), if_neg (by omega)]
  rw [List.getElem?_set, List.getElem?_set]
  simp only [List.length_set]
  by_cases h1 : p + n + m + i = q
  · rw [if_pos h1, if_pos (by omega), if_neg (by omega), if_pos (by omega), e2]
    congr 1; omega
  · rw [if_neg h1]
    by_cases h2 : p + i = q
    · rw [if_pos h2, if_pos (by omega), if_pos (by omega), e1]
      congr 1; omega
    · rw [if_neg h2, h3]
      repeat' split
      all_goals first
        | omega
        | rfl
theorem swp_end {P X M Y Q zs : List Sp} {n : Nat} (hX : X.length = n) (hY : Y.length = n)
    (h3 : ∀ q, zs[q]? = if P.length ≤ q ∧ q < P.length + n then (P ++ X ++ M ++ Y ++ Q)[q + n + M.length]? else if P.length + n + M.length ≤ q ∧ q < P.length + n + M.length + n then (P ++ X ++ M ++ Y ++ Q)[q - n - M.length]? else (P ++ X ++ M ++ Y ++ Q)[q]?) :
    zs = P ++ Y ++ M ++ X ++ Q := by
  refine List.ext_getElem? fun q => ?_
  rw [h3]
  simp only [List.append_assoc, List.getElem?_append, hX, hY]
  repeat' split
  all_goals first
    | omega
    | rfl
    | (congr 1; omega)
end Go.Proofs
set_option linter.all false
namespace Go.Proofs
open Go.Eng
set_option linter.unusedVariables false
set_option maxRecDepth 100000

abbrev Srt (xs : List Sp) : Prop := xs.Pairwise leS
theorem nil_or_snoc {α : Type} (l : List α) : l = [] ∨ ∃ l' y, l = l' ++ [y] := by
  rcases List.eq_nil_or_concat l with h | ⟨l', y, h⟩
  · exact .inl h
  · exact .inr ⟨l', y, by rw [h, List.concat_eq_append]⟩
theorem leS_trans {x y z : Sp} (h : leS x y) (g : leS y z) : leS x z := by unfold leS ltS at *; omega
theorem ins_sorted {S T : List Sp} {x : Sp} (h : Srt (S ++ T)) (h2 : ∀ y ∈ T, leS x y) (h1 : ∀ y ∈ S, leS y x) : Srt (S ++ x :: T) := by
  have h := List.pairwise_append.1 h
  refine List.pairwise_append.2 ⟨h.1, List.pairwise_cons.2 ⟨h2, h.2.1⟩, fun a ha b hb => ?_⟩
  rcases List.mem_cons.1 hb with rfl | hb
  · exact h1 a ha
  · exact h.2.2 a ha b hb
theorem srt_last {S : List Sp} {x y : Sp} (h : Srt (S ++ [y])) (hy : leS y x) : ∀ z ∈ S ++ [y], leS z x := by
  intro z hz
  have h := List.pairwise_append.1 h
  rcases List.mem_append.1 hz with hz | hz
  · exact leS_trans (h.2.2 z hz y (by simp)) hy
  · rw [List.mem_singleton] at hz; subst hz; exact hy
theorem adj_hi {F G : List Sp} {x y d : Sp} {j : Nat} (h : j = F.length + 1) : (F ++ y :: x :: G).getD j d = x := by
  have e : F ++ y :: x :: G = (F ++ [y]) ++ x :: G := by simp
  rw [e]; exact getD_mid (by simp [h])
theorem adj_set {F G : List Sp} {x y u v : Sp} {j i : Nat} (hj : j = F.length + 1) (hi : i = F.length) : ((F ++ y :: x :: G).set j u).set i v = F ++ v :: u :: G := by
  have e : F ++ y :: x :: G = (F ++ [y]) ++ x :: G := by simp
  rw [e, set_mid (by simp [hj])]
  have e2 : (F ++ [y]) ++ u :: G = F ++ y :: (u :: G) := by simp
  rw [e2, set_mid hi]

end Go.Proofs
