/- The first place where something has room: contracts. -/
import Derived.Test.YtabonallopdgdaaSpanI
set_option linter.all false
namespace Go.Proofs
open Go.Eng
set_option linter.unusedVariables false
set_option maxRecDepth 100000
set_option maxHeartbeats 2000000
abbrev m64 (n : Int) : Value := .int .i64 n
abbrev fits (least size : Int) (g : Sp) : Prop := max g.1 least ≤ g.2 ∧ size ≤ g.2 - max g.1 least
/-- the first gap with room -/
def GapR (R : List Sp) (least size r : Int) : Prop := (∃ k, k < R.length ∧ fits least size (R.getD k spE.d) ∧ (∀ j, j < k → ¬ fits least size (R.getD j spE.d)) ∧ r = max (R.getD k spE.d).1 least) ∨ (r = -1 ∧ ∀ j, j < R.length → ¬ fits least size (R.getD j spE.d))
theorem gapR_ex (R : List Sp) (least size : Int) : ∃ r, GapR R least size r := by
  have key : ∀ m, m ≤ R.length → (∃ r, GapR R least size r) ∨ ∀ j, j < m → ¬ fits least size (R.getD j spE.d) := by
    intro m
    induction m with
    | zero => intro _; exact .inr (fun j h => by omega)
    | succ m ih =>
      intro hm
      rcases ih (by omega) with h | h
      · exact .inl h
      · by_cases hf : fits least size (R.getD m spE.d)
        · exact .inl ⟨_, .inl ⟨m, by omega, hf, h, rfl⟩⟩
        · exact .inr (lt_step h hf)
  rcases key R.length (Nat.le_refl _) with h | h
  · exact h
  · exact ⟨-1, .inr ⟨rfl, h⟩⟩
theorem canon_len {n : Int} : ∀ (R : List Sp) (lo : Int), Canon R → (∀ y ∈ R, lo ≤ y.1 ∧ y.2 ≤ n) → (R.length : Int) ≤ max (n - lo) 0 := by
  intro R
  induction R with
  | nil => intro lo _ _; simp; omega
  | cons y ys ih =>
    intro lo hc h
    obtain ⟨h1, h2, h3⟩ := canon_cons.1 hc
    have hy := h y (by simp)
    have := ih (y.2 + 1) h3 (fun z hz => ⟨by have := h2 z hz; omega, (h z (by simp [hz])).2⟩)
    have i1 : 0 ≤ y.1 := h1.1
    have i2 : y.1 < y.2 := h1.2
    simp only [List.length_cons]
    omega
theorem runs_in {n : Int} {p : Int → Prop} {R : List Sp} (h : RunsOf n p R) : ∀ y ∈ R, 0 ≤ y.1 ∧ y.2 ≤ n := fun y hy => by
  have hi := h.canon.is y hy
  have i1 : 0 ≤ y.1 := hi.1
  have i2 : y.1 < y.2 := hi.2
  have h2 := (h.same (y.2 - 1)).1 ⟨y, hy, by omega⟩
  omega
theorem Try.buildGap (n least size r : Int) (a : Option Addr) (c : Nat) (xs : List Sp) (L : List HP) (hl : xs.length ≤ 1000000) (hg : 1 ≤ size ∧ 0 ≤ least ∧ n ≤ 2147483647) (hm : least ≤ 9223372036854775807) (hr : Rd spE L a xs) (hR : GapR (runF n (fun m => ¬ inS xs m)) least size r) :
    Con Try.prog 14 [m64 n, m64 least, m64 size, .slice a xs.length c] L (Is (m64 r) L) := by
  have hro : RunsOf n (fun m => ¬ inS xs m) (runF n (fun m => ¬ inS xs m)) := runs_ok
  have hlen := canon_len _ 0 hro.canon (runs_in hro)
  have hin := runs_in hro
  have hga := fun L h => Try.spanGaps n a c xs L hl h
  generalize runF n (fun m => ¬ inS xs m) = R at *
  refine con_of Try.tysOk Try.func14 rfl rfl ?_
  conv => whnf
  repeat' (first
    | (first | ((with_reducible refine Br.ff ?_); conv => whnf) | ((with_reducible refine Br.df ?_ ?_); (focus (first | assumption | omega)); conv => whnf))
    | ((with_reducible refine Cl.new (hga _ (by ((repeat (assumption)); done))) (fun _ _ _ _ => ?_)); conv => whnf))
  rename_i a1 c1 hc1 had1
  conv => whnf
  refine Lp.by Try.tysOk [26] (fun (k : Nat) => [.int .i64 k]) (fun k => own spE 60 a1 c1 R :: L) (fun k => k ≤ R.length ∧ ∀ j, j < k → ¬ fits least size (R.getD j spE.d)) (fun k => R.length - k) (0) (by kernel_rfl) (by (exact Ent.rfl)) (⟨by omega, fun j h => by omega⟩) ?_
  rintro k ⟨h1, h2⟩
  conv => whnf
  repeat (intro _; conv => whnf)
  by_cases hk : k < R.length
  · have hb := hin _ (getD_mem (d := spE.d) hk)
    by_cases hf : fits least size (R.getD k spE.d)
    · have e : r = max (R.getD k spE.d).1 least := by
        rcases hR with ⟨j, hj, hfj, hno, hr⟩ | ⟨_, hno⟩
        · rcases Nat.lt_trichotomy j k with h | h | h
          · exact (h2 j h hfj).elim
          · subst h; exact hr
          · exact (hno k h hf).elim
        · exact (hno k hk hf).elim
      rw [e]
      conv => whnf
      repeat' (first
        | (first | ((with_reducible refine Br.tt ?_); conv => whnf) | ((with_reducible refine Br.dt ?_ ?_); (focus (first | assumption | omega)); conv => whnf))
        | ((with_reducible refine Ar.i64 ?_ ?_); (focus omega); conv => whnf)
        | ((with_reducible refine Nd.mk ?_ ?_); (focus (first | omega | rfl | assumption | (simp; done))); conv => whnf)
        | ((with_reducible refine Nc.go' (fun _ => ?_)); conv => whnf)
        | ((with_reducible refine Ix.ad ?_ ?_ ?_); (focus (assumption)); (focus (omega)); conv => whnf)
        | (refine Ld.at 0 rfl rfl ?_; conv => whnf)
        | ((with_reducible apply LdN.rdk); (focus ((repeat ((refine Rd.own 0 rfl ?_); (assumption))); done)); (focus rfl); (focus rfl); (focus (omega)); conv => whnf)
        | (refine St.at 0 rfl (by first | exact Nat.le_of_ble_eq_true rfl | (simp; done)) rfl ?_; conv => whnf))
      all_goals first | (refine Is.ent ?_ ?_; (focus (refine FEnt.ent ?_; (repeat (first | exact FEnt.rfl | refine FEnt.drop ?_)); done)); (exact Is.rfl)) | (exfalso; omega)
    · have hst := lt_step h2 hf
      conv => whnf
      repeat' (first
        | (first | ((with_reducible refine Br.tt ?_); conv => whnf) | ((with_reducible refine Br.ff ?_); conv => whnf) | ((with_reducible refine Br.dt ?_ ?_); (focus (first | assumption | omega)); conv => whnf) | ((with_reducible refine Br.df ?_ ?_); (focus (first | assumption | omega)); conv => whnf))
        | ((with_reducible refine Ar.i64 ?_ ?_); (focus omega); conv => whnf)
        | ((with_reducible refine Nd.mk ?_ ?_); (focus (first | omega | rfl | assumption | (simp; done))); conv => whnf)
        | ((with_reducible refine Nc.go' (fun _ => ?_)); conv => whnf)
        | ((with_reducible refine Ix.ad ?_ ?_ ?_); (focus (assumption)); (focus (omega)); conv => whnf)
        | (refine Ld.at 0 rfl rfl ?_; conv => whnf)
        | ((with_reducible apply LdN.rdk); (focus ((repeat ((refine Rd.own 0 rfl ?_); (assumption))); done)); (focus rfl); (focus rfl); (focus (omega)); conv => whnf)
        | (refine St.at 0 rfl (by first | exact Nat.le_of_ble_eq_true rfl | (simp; done)) rfl ?_; conv => whnf)
        | ((with_reducible refine Br.ds (fun _ => ?_) (fun _ => ?_) ) <;> (conv => whnf)))
      all_goals first | exact ⟨k + 1, by kernel_rfl, by (refine FEnt.ent ?_; (repeat (first | exact FEnt.rfl | (refine FEnt.at 1 rfl ?_; (try simp only [List.eraseIdx_cons_zero, List.eraseIdx_cons_succ, List.eraseIdx_zero, List.tail_cons])) | refine FEnt.drop ?_)); done), ⟨by omega, hst⟩, by omega⟩ | (exfalso; omega)
  · have e : r = -1 := by
      rcases hR with ⟨j, hj, hfj, _⟩ | ⟨hr, _⟩
      · exact (h2 j (by omega) hfj).elim
      · exact hr
    rw [e]
    conv => whnf
    repeat' ((with_reducible refine Br.df ?_ ?_); (focus (first | assumption | omega)); conv => whnf)
    all_goals (refine Is.ent ?_ ?_; (focus (refine FEnt.ent ?_; (repeat (first | exact FEnt.rfl | refine FEnt.drop ?_)); done)); (exact Is.rfl))
theorem Try.buildGapNo (n least size : Int) (v : Value) (L : List HP) (hg : ¬ (1 ≤ size ∧ 0 ≤ least ∧ n ≤ 2147483647)) :
    Con Try.prog 14 [m64 n, m64 least, m64 size, v] L (Is (m64 (-1)) L) := by
  refine con_of Try.tysOk Try.func14 rfl rfl ?_
  conv => whnf
  repeat' (first
    | (first | ((with_reducible refine Br.tt ?_); conv => whnf) | ((with_reducible refine Br.ff ?_); conv => whnf) | ((with_reducible refine Br.dt ?_ ?_); (focus (first | assumption | omega)); conv => whnf))
    | ((with_reducible refine Br.ds (fun _ => ?_) (fun _ => ?_) ) <;> (conv => whnf)))
  all_goals first | (refine Is.ent ?_ ?_; (focus (exact Ent.rfl)); (exact Is.rfl)) | (exfalso; omega)
/-! the document's -/
def freeP (xs : List Sp) (size p : Int) : Prop := ∀ m, p ≤ m → m < p + size → ¬ inS xs m
def GapS (n least size : Int) (xs : List Sp) (r : Int) : Prop := (least ≤ r ∧ r + size ≤ n ∧ freeP xs size r ∧ ∀ p, least ≤ p → p < r → ¬ freeP xs size p) ∨ (r = -1 ∧ ∀ p, least ≤ p → p + size ≤ n → ¬ freeP xs size p)
theorem Try.refGap (n least size r : Int) (a : Option Addr) (c : Nat) (xs : List Sp) (L : List HP) (hl : xs.length ≤ 1000000) (hg : 1 ≤ size ∧ 0 ≤ least ∧ n ≤ 2147483647) (hm : least ≤ 9223372036854775807) (hm2 : size ≤ 9223372036854775807) (hr : Rd spE L a xs) (hR : GapS n least size xs r) :
    Con Try.prog 15 [m64 n, m64 least, m64 size, .slice a xs.length c] L (Is (m64 r) L) := by
  have hin := fun m L h => Try.refIn a c xs m L (by omega) h
  refine con_of Try.tysOk Try.func15 rfl rfl ?_
  conv => whnf
  refine Lp.by2 Try.tysOk [9, 10] (fun (q u : Int) => [m64 u, m64 q]) (fun q u => L) (fun q u => least ≤ q ∧ (q ≤ n ∨ q = least) ∧ (0 ≤ u ∧ u < size ∧ u ≤ q - least) ∧ (∀ m, q - u ≤ m → m < q → ¬ inS xs m) ∧ (q - u = least ∨ inS xs (q - u - 1)) ∧ ∀ p, least ≤ p → p + size ≤ q → ¬ freeP xs size p) (fun q u => (n - q).toNat) (least) (0) (by kernel_rfl) (by (exact Ent.rfl)) (⟨by omega, by omega, by omega, fun m h1 h2 => by omega, by omega, fun p h1 h2 => by omega⟩) ?_
  rintro q u ⟨g1, g2, g3, g4, g5, g6⟩
  conv => whnf
  repeat (intro _; conv => whnf)
  by_cases hk : q < n
  · by_cases hi : inS xs q
    · have hst : ∀ p, least ≤ p → p + size ≤ q + 1 → ¬ freeP xs size p := fun p h1 h2 hf => by
        by_cases h3 : p + size ≤ q
        · exact g6 p h1 h3 hf
        · exact hf q (by omega) (by omega) hi
      have hsz : ¬ (0 : Int) = size := by omega
      conv => whnf
      repeat' (first
        | (first | ((with_reducible refine Br.tt ?_); conv => whnf) | ((with_reducible refine Br.dt ?_ ?_); (focus (first | assumption | omega)); conv => whnf) | ((with_reducible refine Br.df ?_ ?_); (focus (first | assumption | omega)); conv => whnf))
        | ((with_reducible refine Ar.i64 ?_ ?_); (focus omega); conv => whnf)
        | ((with_reducible refine Cl.is (Con.dt hi (hin q _ (by ((repeat (assumption)); done)))) ?_); conv => whnf))
      all_goals first | exact ⟨q + 1, 0, by kernel_rfl, by (exact Ent.rfl), ⟨by omega, by omega, by omega, fun m h1 h2 => by omega, .inr (by rw [show q + 1 - 0 - 1 = q from by omega]; exact hi), hst⟩, by omega⟩ | (exfalso; omega)
    · have g4' : ∀ m, q - u ≤ m → m < q + 1 → ¬ inS xs m := fun m h1 h2 => if h : m = q then by rw [h]; exact hi else g4 m h1 (by omega)
      by_cases hs : u + 1 = size
      · have hfree : freeP xs size (q - size + 1) := fun m h1 h2 => g4' m (by omega) (by omega)
        have e : r = q - size + 1 := by
          rcases hR with ⟨r1, r2, r3, r4⟩ | ⟨_, r2⟩
          · rcases Int.lt_trichotomy r (q - size + 1) with h | h | h
            · exact (g6 r r1 (by omega) r3).elim
            · exact h
            · exact (r4 _ (by omega) h hfree).elim
          · exact (r2 _ (by omega) (by omega) hfree).elim
        rw [e]
        conv => whnf
        repeat' (first
          | (first | ((with_reducible refine Br.ff ?_); conv => whnf) | ((with_reducible refine Br.dt ?_ ?_); (focus (first | assumption | omega)); conv => whnf))
          | ((with_reducible refine Ar.i64 ?_ ?_); (focus omega); conv => whnf)
          | ((with_reducible refine Cl.is (Con.df hi (hin q _ (by ((repeat (assumption)); done)))) ?_); conv => whnf))
        all_goals first | (refine Is.ent ?_ ?_; (focus (exact Ent.rfl)); (exact Is.rfl)) | (exfalso; omega)
      · have hst : ∀ p, least ≤ p → p + size ≤ q + 1 → ¬ freeP xs size p := fun p h1 h2 hf => by
          by_cases h3 : p + size ≤ q
          · exact g6 p h1 h3 hf
          · rcases g5 with h | h
            · omega
            · exact hf (q - u - 1) (by omega) (by omega) h
        conv => whnf
        repeat' (first
          | (first | ((with_reducible refine Br.ff ?_); conv => whnf) | ((with_reducible refine Br.dt ?_ ?_); (focus (first | assumption | omega)); conv => whnf) | ((with_reducible refine Br.df ?_ ?_); (focus (first | assumption | omega)); conv => whnf))
          | ((with_reducible refine Ar.i64 ?_ ?_); (focus omega); conv => whnf)
          | ((with_reducible refine Cl.is (Con.df hi (hin q _ (by ((repeat (assumption)); done)))) ?_); conv => whnf))
        all_goals first | exact ⟨q + 1, u + 1, by kernel_rfl, by (exact Ent.rfl), ⟨by omega, by omega, by omega, fun m h1 h2 => g4' m (by omega) h2, g5.elim (fun h => .inl (by omega)) (fun h => .inr (by rw [show q + 1 - (u + 1) - 1 = q - u - 1 from by omega]; exact h)), hst⟩, by omega⟩ | (exfalso; omega)
  · have e : r = -1 := by
      rcases hR with ⟨r1, r2, r3, r4⟩ | ⟨h, _⟩
      · exact (g6 r r1 (by omega) r3).elim
      · exact h
    rw [e]
    conv => whnf
    repeat' ((with_reducible refine Br.df ?_ ?_); (focus (first | assumption | omega)); conv => whnf)
    all_goals (refine Is.ent ?_ ?_; (focus (exact Ent.rfl)); (exact Is.rfl))
/-- both are the same -/
theorem gap_same {n least size r : Int} {xs R : List Sp} (hs : 1 ≤ size) (hl : 0 ≤ least) (hR : RunsOf n (fun m => ¬ inS xs m) R) (h : GapR R least size r) : GapS n least size xs r := by
  have hin := runs_in hR
  -- a free row lies in one run
  have key : ∀ p, least ≤ p → p + size ≤ n → freeP xs size p → ∃ k, k < R.length ∧ (R.getD k spE.d).1 ≤ p ∧ p + size ≤ (R.getD k spE.d).2 := by
    intro p h1 h2 hf
    have hmem : ∀ m, p ≤ m → m < p + size → inS R m := fun m a b => (hR.same m).2 ⟨by omega, by omega, hf m a b⟩
    obtain ⟨y, hy, hh⟩ := hmem p (by omega) (by omega)
    obtain ⟨k, hk, rfl⟩ := List.getElem_of_mem hy
    have ek : R.getD k spE.d = R[k] := by simp [List.getD, hk]
    refine ⟨k, hk, by rw [ek]; exact hh.2.1, ?_⟩
    rw [ek]
    refine Classical.byContradiction fun hno => ?_
    obtain ⟨z, hz, hz2⟩ := hmem R[k].2 (by have := hh.2.2; omega) (by omega)
    obtain ⟨j, hj, rfl⟩ := List.getElem_of_mem hz
    have i2 := (hin _ hy).2
    rcases Nat.lt_trichotomy j k with h | h | h
    · have := List.pairwise_iff_getElem.1 hR.canon.ap j k hj hk h
      have c1 := hh.2.2
      have c2 := hz2.2.2
      have c3 := hR.canon.is _ hy
      have c4 : R[k].1 < R[k].2 := c3.2
      omega
    · subst h
      have := hz2.2.2
      omega
    · have := List.pairwise_iff_getElem.1 hR.canon.ap k j hk hj h
      have := hz2.2.1
      omega
  have mono : ∀ i j, i < j → j < R.length → (R.getD i spE.d).2 < (R.getD j spE.d).1 := fun i j hij hj => canon_lt hR.canon hij hj
  rcases h with ⟨k, hk, hf, hno, hr⟩ | ⟨hr, hno⟩
  · have hb := hin _ (getD_mem (d := spE.d) hk)
    have hg := hR.canon.is _ (getD_mem (d := spE.d) hk)
    have hg1 : (R.getD k spE.d).1 < (R.getD k spE.d).2 := hg.2
    refine .inl ⟨by omega, by omega, fun m h1 h2 => ?_, fun p h1 h2 hf2 => ?_⟩
    · exact ((hR.same m).1 ⟨_, getD_mem (d := spE.d) hk, by omega⟩).2.2
    · obtain ⟨j, hj, j1, j2⟩ := key p h1 (by omega) hf2
      rcases Nat.lt_trichotomy j k with h | h | h
      · exact hno j h ⟨by omega, by omega⟩
      · subst h; omega
      · have := mono k j h hj
        omega
  · refine .inr ⟨hr, fun p h1 h2 hf2 => ?_⟩
    obtain ⟨j, hj, j1, j2⟩ := key p h1 h2 hf2
    exact hno j hj ⟨by omega, by omega⟩
end Go.Proofs
