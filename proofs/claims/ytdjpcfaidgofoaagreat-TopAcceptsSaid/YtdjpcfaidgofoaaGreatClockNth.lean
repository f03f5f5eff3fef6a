/- The clock: the n'th tick. -/
import Derived.Test.YtdjpcfaidgofoaaGreatSpanG
set_option linter.all false
namespace Go.Proofs
open Go.Eng
set_option linter.unusedVariables false

/-- can a frame have so many ticks? -/
abbrev okF (f : Int) : Prop := 1 ≤ f ∧ f ≤ 4096
theorem div_of {n k f : Int} (h0 : 0 ≤ n - k * f) (h1 : n - k * f < f) : n / f = k ∧ n % f = n - k * f := by
  have hf : 0 < f := by omega
  have e : n = (n - k * f) + k * f := by omega
  constructor
  · rw [e, Int.add_mul_ediv_right _ _ (by omega), Int.ediv_eq_zero_of_lt h0 h1]; omega
  · have : ((n - k * f) + k * f) % f = (n - k * f) % f := Int.add_mul_emod_self_right _ _ _
    rw [← e] at this
    rw [this, Int.emod_eq_of_lt h0 h1]
theorem qr {n f : Int} (hf : 0 < f) : n = n / f * f + n % f ∧ 0 ≤ n % f ∧ n % f < f := by
  refine ⟨?_, Int.emod_nonneg n (by omega), Int.emod_lt_of_pos n hf⟩
  have := Int.mul_ediv_add_emod n f
  rw [Int.mul_comm] at this
  omega
theorem div_nn {n f : Int} (h : 0 ≤ n) (hf : 0 < f) : 0 ≤ n / f ∧ n / f ≤ n ∧ 0 ≤ n / f * f ∧ n / f * f ≤ n := by
  obtain ⟨e, h1, h2⟩ := qr (n := n) hf
  have h3 : 0 ≤ n / f := Int.ediv_nonneg h (by omega)
  have h4 : n / f ≤ n := Int.ediv_le_self f h
  exact ⟨h3, h4, Int.mul_nonneg h3 (by omega), by omega⟩
theorem mul_bd {k f a b : Int} (h0 : 0 ≤ k) (h1 : k ≤ a) (h2 : 0 ≤ f) (h3 : f ≤ b) : 0 ≤ k * f ∧ k * f ≤ a * b :=
  ⟨Int.mul_nonneg h0 h2, Int.mul_le_mul h1 h3 h2 (by omega)⟩
theorem succ_mul' (k f : Int) : (k + 1) * f = k * f + f := by rw [Int.add_mul, Int.one_mul]

/-- the first tick from one on that has an offset -/
def nextF (t o f : Int) : Int := (if t % f > o then t / f + 1 else t / f) * f + o
theorem nextF_spec {t o f : Int} (ht : 0 ≤ t) (hf : 0 < f) (ho : 0 ≤ o ∧ o < f) : t ≤ nextF t o f ∧ nextF t o f % f = o ∧ nextF t o f - t < f ∧ ∀ n, t ≤ n → n < nextF t o f → n % f ≠ o := by
  obtain ⟨e, h1, h2⟩ := qr (n := t) hf
  unfold nextF
  split
  · rename_i hg
    rw [succ_mul']
    refine ⟨by omega, ?_, by omega, fun n h3 h4 => ?_⟩
    · rw [← succ_mul']
      rw [(div_of (n := (t / f + 1) * f + o) (k := t / f + 1) (f := f) (by omega) (by omega)).2]; omega
    · by_cases hn : n < t / f * f + f
      · rw [(div_of (n := n) (k := t / f) (f := f) (by omega) (by omega)).2]; omega
      · rw [(div_of (n := n) (k := t / f + 1) (f := f) (by rw [succ_mul']; omega) (by rw [succ_mul']; omega)).2, succ_mul']; omega
  · rename_i hg
    refine ⟨by omega, ?_, by omega, fun n h3 h4 => ?_⟩
    · rw [(div_of (n := t / f * f + o) (k := t / f) (f := f) (by omega) (by omega)).2]; omega
    · rw [(div_of (n := n) (k := t / f) (f := f) (by omega) (by omega)).2]; omega
theorem nextF_self {t f : Int} (ht : 0 ≤ t) (hf : 0 < f) : nextF t (t % f) f = t := by
  obtain ⟨e, h1, h2⟩ := qr (n := t) hf
  unfold nextF
  rw [if_neg (by omega)]; omega
theorem step_qr {t f : Int} (ht : 0 ≤ t) (hf : 0 < f) : ((t + 1) / f = t / f ∧ (t + 1) % f = t % f + 1 ∧ t % f + 1 < f) ∨ ((t + 1) / f = t / f + 1 ∧ (t + 1) % f = 0 ∧ t % f + 1 = f) := by
  obtain ⟨e, h1, h2⟩ := qr (n := t) hf
  by_cases h : t % f + 1 < f
  · have := div_of (n := t + 1) (k := t / f) (f := f) (by omega) (by omega)
    exact .inl ⟨this.1, by omega, h⟩
  · have := div_of (n := t + 1) (k := t / f + 1) (f := f) (by rw [succ_mul']; omega) (by rw [succ_mul']; omega)
    rw [succ_mul'] at this
    exact .inr ⟨this.1, by omega, by omega⟩

/-! counting -/
/-- how many ticks ahead of one have an offset in a span -/
def belowF (t g h f : Int) : Int := t / f * (h - g) + min (max (t % f - g) 0) (h - g)
theorem belowF_step {t g h f : Int} (ht : 0 ≤ t) (hf : 0 < f) (hg : 0 ≤ g) (hh : g ≤ h) (hl : h ≤ f) :
    belowF (t + 1) g h f = belowF t g h f + if g ≤ t % f ∧ t % f < h then 1 else 0 := by
  obtain ⟨e, h1, h2⟩ := qr (n := t) hf
  unfold belowF
  rcases step_qr ht hf with ⟨a, b, c⟩ | ⟨a, b, c⟩
  · rw [a, b]
    split <;> omega
  · rw [a, b, Int.add_mul, Int.one_mul]
    split <;> omega
theorem belowF_bd {g h f : Int} (hf : 0 < f) (hg : 0 ≤ g) (hh : g ≤ h) (hl : h ≤ f) : ∀ (n : Nat) (t : Int), 0 ≤ t → belowF t g h f ≤ belowF (t + n) g h f ∧ belowF (t + n) g h f ≤ belowF t g h f + n := by
  intro n
  induction n with
  | zero => intro t ht; rw [Int.natCast_zero, Int.add_zero]; omega
  | succ n ih =>
    intro t ht
    have h1 := ih t ht
    have h2 := belowF_step (t := t + n) (g := g) (h := h) (by omega) hf hg hh hl
    rw [Int.natCast_add, ← Int.add_assoc, Int.natCast_one, h2]
    split <;> omega
/-- how many places of spans are below one -/
def cov (I : List Sp) (o : Int) : Int := (I.map fun x => min (max (o - x.1) 0) (x.2 - x.1)).sum
theorem cov_cons {x : Sp} {I : List Sp} {o : Int} : cov (x :: I) o = min (max (o - x.1) 0) (x.2 - x.1) + cov I o := rfl
theorem cov_nn {I : List Sp} {o : Int} (h : ∀ x ∈ I, isS x.1 x.2) : 0 ≤ cov I o := by
  induction I with
  | nil => exact Int.le_refl _
  | cons x I ih =>
    have h1 := h x (by simp)
    have h2 := ih fun y hy => h y (by simp [hy])
    rw [cov_cons]
    omega
theorem cov_step {I : List Sp} (hc : Canon I) {o : Int} (ho : 0 ≤ o) : (inS I o ∧ cov I (o + 1) = cov I o + 1) ∨ (¬ inS I o ∧ cov I (o + 1) = cov I o) := by
  induction I with
  | nil => exact .inr ⟨inS_nil, rfl⟩
  | cons x I ih =>
    obtain ⟨h1, h2, h3⟩ := canon_cons.1 hc
    rw [cov_cons, cov_cons, inS_cons]
    by_cases hx : holdsS x o
    · have hno : ¬ inS I o := fun ⟨y, hy, hh⟩ => by have := h2 y hy; unfold holdsS at *; omega
      rcases ih h3 with ⟨a, b⟩ | ⟨a, b⟩
      · exact (hno a).elim
      · refine .inl ⟨.inl hx, ?_⟩
        unfold holdsS at hx
        omega
    · rcases ih h3 with ⟨a, b⟩ | ⟨a, b⟩
      · refine .inl ⟨.inr a, ?_⟩
        unfold holdsS at hx
        omega
      · refine .inr ⟨fun h => h.elim hx a, ?_⟩
        unfold holdsS at hx
        omega
theorem cov_zero {I : List Sp} (hc : Canon I) : cov I 0 = 0 := by
  induction I with
  | nil => rfl
  | cons x I ih =>
    obtain ⟨h1, h2, h3⟩ := canon_cons.1 hc
    rw [cov_cons, ih h3]
    omega
theorem cov_all {I : List Sp} {f : Int} (h : ∀ x ∈ I, isS x.1 x.2 ∧ x.2 ≤ f) : cov I f = totalS I := by
  induction I with
  | nil => rfl
  | cons x I ih =>
    have h1 := h x (by simp)
    have e : totalS (x :: I) = (x.2 - x.1) + totalS I := by simp [totalS]
    rw [cov_cons, ih fun y hy => h y (by simp [hy]), e]
    omega
/-- how many ticks ahead of one have an offset in some spans -/
def cntT (I : List Sp) (f t : Int) : Int := t / f * cov I f + cov I (t % f)
theorem cntT_step {I : List Sp} (hc : Canon I) {f t : Int} (ht : 0 ≤ t) (hf : 0 < f) : (inS I (t % f) ∧ cntT I f (t + 1) = cntT I f t + 1) ∨ (¬ inS I (t % f) ∧ cntT I f (t + 1) = cntT I f t) := by
  obtain ⟨e, h1, h2⟩ := qr (n := t) hf
  have hs := cov_step hc h1
  have h0 := cov_zero hc
  unfold cntT
  rcases step_qr ht hf with ⟨a, b, c⟩ | ⟨a, b, c⟩
  · rw [a, b]
    rcases hs with ⟨p, q⟩ | ⟨p, q⟩
    · exact .inl ⟨p, by omega⟩
    · exact .inr ⟨p, by omega⟩
  · rw [a, b, Int.add_mul, Int.one_mul, h0]
    rw [c] at hs
    rcases hs with ⟨p, q⟩ | ⟨p, q⟩
    · exact .inl ⟨p, by omega⟩
    · exact .inr ⟨p, by omega⟩
theorem cntT_mono {I : List Sp} (hc : Canon I) {f : Int} (hf : 0 < f) : ∀ (n : Nat) (t : Int), 0 ≤ t → cntT I f t ≤ cntT I f (t + n) := by
  intro n
  induction n with
  | zero => intro t ht; rw [Int.natCast_zero, Int.add_zero]; omega
  | succ n ih =>
    intro t ht
    have h1 := ih t ht
    have h2 := cntT_step hc (f := f) (t := t + n) (by omega) hf
    rw [Int.natCast_add, ← Int.add_assoc, Int.natCast_one]
    omega
theorem cntT_le {I : List Sp} (hc : Canon I) {f s t : Int} (hf : 0 < f) (h0 : 0 ≤ s) (h : s ≤ t) : cntT I f s ≤ cntT I f t := by
  have := cntT_mono hc hf (t - s).toNat s h0
  rwa [show s + ((t - s).toNat : Int) = t from by omega] at this
/-- the n'th tick from one on that has one of some offsets -/
structure NthOf (I : List Sp) (f t n T : Int) : Prop where
  nn : 0 ≤ T
  is : inS I (T % f)
  cnt : cntT I f T = cntT I f t + n - 1
theorem NthOf.ge {I : List Sp} {f t n T : Int} (h : NthOf I f t n T) (hc : Canon I) (hf : 0 < f) (hn : 1 ≤ n) : t ≤ T := by
  rcases Int.lt_or_le T t with hlt | hle
  · have h1 := cntT_le hc hf (by have := h.nn; omega : 0 ≤ T + 1) (by omega : T + 1 ≤ t)
    have h2 := cntT_step hc h.nn hf
    have := h.cnt
    rcases h2 with ⟨_, b⟩ | ⟨a, _⟩
    · omega
    · exact (a h.is).elim
  · exact hle
theorem NthOf.uniq {I : List Sp} {f t n T U : Int} (h : NthOf I f t n T) (g : NthOf I f t n U) (hc : Canon I) (hf : 0 < f) : T = U := by
  have key : ∀ {T U : Int}, NthOf I f t n T → NthOf I f t n U → ¬ T < U := by
    intro T U h g hlt
    have h1 := cntT_le hc hf (by have := h.nn; omega : 0 ≤ T + 1) (by omega : T + 1 ≤ U)
    have h2 := cntT_step hc h.nn hf
    have h3 := h.cnt
    have h4 := g.cnt
    rcases h2 with ⟨_, b⟩ | ⟨a, _⟩
    · omega
    · exact a h.is
  have h1 := key h g
  have h2 := key g h
  omega
/-- spans, as far as they are within a frame -/
def meetI (f : Int) (M : List Sp) : List Sp := (M.filter fun x => x.1 < f).map fun x => (x.1, min x.2 f)
theorem meetI_yes {f : Int} {M : List Sp} {k : Nat} (h : k < M.length) (hx : (M.getD k spE.d).1 < f) : meetI f (M.take (k + 1)) = meetI f (M.take k) ++ [((M.getD k spE.d).1, min (M.getD k spE.d).2 f)] := by
  rw [take_snoc h]
  unfold meetI
  rw [List.filter_append, List.map_append, List.filter_cons_of_pos (by simpa using hx)]
  rfl
theorem meetI_no {f : Int} {M : List Sp} {k : Nat} (h : k < M.length) (hx : ¬ (M.getD k spE.d).1 < f) : meetI f (M.take (k + 1)) = meetI f (M.take k) := by
  rw [take_snoc h]
  unfold meetI
  rw [List.filter_append, List.map_append, List.filter_cons_of_neg (by simpa using hx)]
  simp
theorem meetI_ok {f : Int} {M : List Sp} (h : ∀ x ∈ M, isS x.1 x.2) : ∀ x ∈ meetI f M, isS x.1 x.2 ∧ x.2 ≤ f := by
  intro x hx
  obtain ⟨y, hy, rfl⟩ := List.mem_map.1 hx
  obtain ⟨h1, h2⟩ := List.mem_filter.1 hy
  have := h y h1
  simp only [decide_eq_true_eq] at h2
  simp only
  omega
theorem meetI_canon {f : Int} {M : List Sp} (h : Canon M) : Canon (meetI f M) := by
  refine ⟨fun x hx => (meetI_ok h.is x hx).1, ?_⟩
  unfold meetI
  rw [List.pairwise_map]
  refine (h.ap.filter _).imp fun {a b} hab => ?_
  simp only
  omega
theorem meetI_in {f : Int} {M : List Sp} {o : Int} : inS (meetI f M) o ↔ o < f ∧ inS M o := by
  constructor
  · rintro ⟨x, hx, hh⟩
    obtain ⟨y, hy, rfl⟩ := List.mem_map.1 hx
    obtain ⟨h1, h2⟩ := List.mem_filter.1 hy
    unfold holdsS at hh
    simp only at hh
    exact ⟨by omega, y, h1, by unfold holdsS; omega⟩
  · rintro ⟨ho, x, hx, hh⟩
    unfold holdsS at hh
    refine ⟨(x.1, min x.2 f), List.mem_map.2 ⟨x, List.mem_filter.2 ⟨hx, by simp; omega⟩, rfl⟩, ?_⟩
    unfold holdsS
    simp only
    omega
theorem meetI_len (f : Int) (M : List Sp) : (meetI f M).length ≤ M.length := by
  unfold meetI
  rw [List.length_map]
  exact List.length_filter_le _ _
theorem cov_mid : ∀ {I : List Sp}, Canon I → ∀ {j : Nat} {m : Int}, j < I.length → 0 ≤ m → m ≤ (I.getD j spE.d).2 - (I.getD j spE.d).1 → cov I ((I.getD j spE.d).1 + m) = totalS (I.take j) + m
  | [], _, j, m, hj, _, _ => by simp at hj
  | x :: I, hc, 0, m, hj, h0, hm => by
    obtain ⟨h1, h2, h3⟩ := canon_cons.1 hc
    simp only [List.getD_cons_zero] at hm ⊢
    have hz : ∀ J : List Sp, (∀ y ∈ J, x.2 < y.1 ∧ y.1 < y.2) → cov J (x.1 + m) = 0 := by
      intro J
      induction J with
      | nil => intro _; rfl
      | cons y J ih =>
        intro h
        have := h y (by simp)
        rw [cov_cons, ih fun z hz => h z (by simp [hz])]
        omega
    rw [cov_cons, hz I fun y hy => ⟨h2 y hy, (h3.is y hy).2⟩, List.take_zero]
    simp only [totalS, List.map_nil, List.sum_nil]
    omega
  | x :: I, hc, j + 1, m, hj, h0, hm => by
    obtain ⟨h1, h2, h3⟩ := canon_cons.1 hc
    simp only [List.getD_cons_succ] at hm ⊢
    have hj' : j < I.length := by simpa using hj
    have ih := cov_mid h3 hj' h0 hm
    have hlt := h2 _ (getD_mem (d := spE.d) hj')
    have e : totalS ((x :: I).take (j + 1)) = (x.2 - x.1) + totalS (I.take j) := by simp [totalS]
    rw [cov_cons, ih, e]
    omega
theorem cov_take {I : List Sp} {k : Nat} {o : Int} (h : k < I.length) : cov (I.take (k + 1)) o = cov (I.take k) o + min (max (o - (I.getD k spE.d).1) 0) ((I.getD k spE.d).2 - (I.getD k spE.d).1) := by
  rw [take_snoc h]; simp [cov]
theorem cov_bd {I : List Sp} {f o : Int} (h : ∀ x ∈ I, isS x.1 x.2 ∧ x.2 ≤ 4096) : 0 ≤ cov I o ∧ cov I o ≤ 4096 * I.length := by
  induction I with
  | nil => simp [cov]
  | cons x I ih =>
    have h1 := h x (by simp)
    have h2 := ih fun y hy => h y (by simp [hy])
    rw [cov_cons, List.length_cons, Int.natCast_add]
    omega
end Go.Proofs
set_option linter.all false
namespace Go.Proofs
open Go.Eng
set_option linter.unusedVariables false
set_option maxRecDepth 100000
set_option maxHeartbeats 800000
abbrev n64 (n : Int) : Value := .int .i64 n
theorem Tryz.clkRight (f : Int) (L : List HP) : Con Tryz.prog 129 [n64 f] L (Is (.bool (decide (okF f))) L) := by
  refine con_of Tryz.tysOk Tryz.func129 rfl rfl ?_
  conv => whnf
  repeat' (first
    | (first | ((with_reducible refine Br.tt ?_); conv => whnf) | ((with_reducible refine Br.ff ?_); conv => whnf))
    | ((with_reducible refine Br.ds (fun _ => ?_) (fun _ => ?_) ) <;> (conv => whnf)))
  all_goals (refine Is.ent ?_ ?_; (focus (exact Ent.rfl)); (first | exact Is.ff (by omega) | (refine Is.dec ?_; omega)))
theorem Tryz.clkFrame (t f : Int) (L : List HP) (ht : 0 ≤ t ∧ t ≤ 9223372036854775807) (hf : okF f) : Con Tryz.prog 152 [n64 t, n64 f] L (Is (.tuple #[n64 (t / f), n64 (t % f)]) L) := by
  have h1 : t.tdiv f = t / f := Int.tdiv_eq_ediv_of_nonneg ht.1
  have h4 : t.tmod f = t % f := Int.tmod_eq_emod_of_nonneg ht.1
  have h3 := div_nn (n := t) (f := f) ht.1 (by omega)
  rw [← h1] at h3
  rw [← h1, ← h4]
  refine con_of Tryz.tysOk Tryz.func152 rfl rfl ?_
  conv => whnf
  repeat' (first
    | (first | ((with_reducible refine Br.ff ?_); conv => whnf) | ((with_reducible refine Br.nt ?_); conv => whnf) | ((with_reducible refine Br.df ?_ ?_); (focus (first | assumption | omega)); conv => whnf))
    | ((with_reducible refine Ar.i64 ?_ ?_); (focus omega); conv => whnf)
    | ((with_reducible refine Nd.mk ?_ ?_); (focus (first | omega | rfl | assumption | (simp; done))); conv => whnf)
    | ((with_reducible refine Dr.by (id := 3) Tryz.tysOk rfl [(0, 0), (1, 0), (2, 0), (3, 0), (4, 0), (5, 0), (6, 0), (7, 0)] ?_ ?_); (focus kernel_rfl); conv => whnf)
    | ((with_reducible refine Cl.is (Con.dt hf (Tryz.clkRight _ _)) ?_); conv => whnf))
  all_goals (refine Is.ent ?_ ?_; (focus (exact Ent.rfl)); (exact Is.rfl))
theorem Tryz.clkFrameNo (t f : Int) (L : List HP) (h : ¬ (okF f ∧ 0 ≤ t)) : Con Tryz.prog 152 [n64 t, n64 f] L (Is (.tuple #[n64 0, n64 0]) L) := by
  by_cases hf : okF f
  · refine con_of Tryz.tysOk Tryz.func152 rfl rfl ?_
    conv => whnf
    repeat' (first
      | (first | ((with_reducible refine Br.ff ?_); conv => whnf) | ((with_reducible refine Br.nt ?_); conv => whnf) | ((with_reducible refine Br.dt ?_ ?_); (focus (first | assumption | omega)); conv => whnf))
      | ((with_reducible refine Cl.is (Con.dt hf (Tryz.clkRight _ _)) ?_); conv => whnf))
    all_goals (refine Is.ent ?_ ?_; (focus (exact Ent.rfl)); (exact Is.rfl))
  · refine con_of Tryz.tysOk Tryz.func152 rfl rfl ?_
    conv => whnf
    repeat' (first
      | (first | ((with_reducible refine Br.tt ?_); conv => whnf) | ((with_reducible refine Br.nf ?_); conv => whnf))
      | ((with_reducible refine Cl.is (Con.df hf (Tryz.clkRight _ _)) ?_); conv => whnf))
    all_goals (refine Is.ent ?_ ?_; (focus (exact Ent.rfl)); (exact Is.rfl))
abbrev atOk (k o f : Int) : Prop := okF f ∧ 0 ≤ k ∧ k ≤ 2147483647 ∧ 0 ≤ o ∧ o < f
abbrev nextOk (t o f : Int) : Prop := okF f ∧ 0 ≤ o ∧ o < f ∧ t ≤ 2147483647
/-! counts -/
abbrev cntOk (s1 s2 o1 o2 f : Int) : Prop := okF f ∧ isS s1 s2 ∧ s2 ≤ 2147483647 ∧ meetS o1 o2 0 f
end Go.Proofs
set_option linter.all false
namespace Go.Proofs
open Go.Eng
set_option linter.unusedVariables false
set_option maxRecDepth 100000
set_option maxHeartbeats 2000000
abbrev nthOk (t n f : Int) : Prop := okF f ∧ 1 ≤ n ∧ n ≤ 65536 ∧ 0 ≤ t ∧ t ≤ 2147483647
/-- what the n'th tick is -/
structure NthP (xs : List Sp) (f t n T : Int) : Prop where
  yes : (∃ o, 0 ≤ o ∧ o < f ∧ inS xs o) → NthOf (meetI f (mergeF xs)) f t n T
  no : (¬ ∃ o, 0 ≤ o ∧ o < f ∧ inS xs o) → T = -1
  le : T ≤ 9223372036854775807
theorem totalS_pos {I : List Sp} (h : ∀ x ∈ I, isS x.1 x.2) : totalS I ≠ 0 ↔ I ≠ [] := by
  cases I with
  | nil => simp [totalS]
  | cons x I =>
    have h1 := h x (by simp)
    have h2 : 0 ≤ totalS I := by
      have : ∀ J : List Sp, (∀ y ∈ J, isS y.1 y.2) → 0 ≤ totalS J := by
        intro J
        induction J with
        | nil => intro _; simp [totalS]
        | cons y J ih =>
          intro h
          have := h y (by simp)
          have := ih fun z hz => h z (by simp [hz])
          have e : totalS (y :: J) = (y.2 - y.1) + totalS J := by simp [totalS]
          omega
      exact this I fun y hy => h y (by simp [hy])
    have e : totalS (x :: I) = (x.2 - x.1) + totalS I := by simp [totalS]
    constructor
    · intro _ h; cases h
    · intro _; omega
theorem totalS_snoc {I : List Sp} {x : Sp} : totalS (I ++ [x]) = totalS I + (x.2 - x.1) := by simp [totalS]
end Go.Proofs
