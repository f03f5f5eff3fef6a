/- Where units begin: plain laws. -/
import Derived.Test.YtaacolkdlmfifaaGreatSlotC
set_option linter.all false
namespace Go.Proofs
open Go.Eng
set_option linter.unusedVariables false
set_option maxRecDepth 100000
set_option maxHeartbeats 1000000
/-- where the units of a slot begin -/
def unitsF (s : Slt) : List Int := (List.range ((s.2.2 - s.2.1) / 4).toNat).map fun i : Nat => s.2.1 + 4 * (i : Int)
def rawS (xs : List Slt) (w : Int) : List Int := (xs.filter fun s => decide (s.1 = w)).flatMap unitsF
theorem rawS_yes {xs : List Slt} {w : Int} {k : Nat} (hk : k < xs.length) (h : (xs.getD k slE.d).1 = w) : rawS (xs.take (k + 1)) w = rawS (xs.take k) w ++ unitsF (xs.getD k slE.d) := by
  unfold rawS
  rw [List.take_add_one, List.getElem?_eq_getElem hk, List.filter_append, List.flatMap_append]
  have e : xs.getD k slE.d = xs[k] := by simp [List.getD, hk]
  rw [e] at h ⊢
  simp [h]
theorem rawS_no {xs : List Slt} {w : Int} {k : Nat} (hk : k < xs.length) (h : ¬ (xs.getD k slE.d).1 = w) : rawS (xs.take (k + 1)) w = rawS (xs.take k) w := by
  unfold rawS
  rw [List.take_add_one, List.getElem?_eq_getElem hk, List.filter_append, List.flatMap_append]
  have e : xs.getD k slE.d = xs[k] := by simp [List.getD, hk]
  rw [e] at h
  simp [h]
theorem unitsF_mem {s : Slt} {o : Int} : o ∈ unitsF s ↔ s.2.1 ≤ o ∧ o + 4 ≤ s.2.2 ∧ (o - s.2.1) % 4 = 0 := by
  unfold unitsF
  rw [List.mem_map]
  constructor
  · rintro ⟨i, hi, rfl⟩
    rw [List.mem_range] at hi
    omega
  · rintro ⟨h1, h2, h3⟩
    exact ⟨((o - s.2.1) / 4).toNat, by rw [List.mem_range]; omega, by omega⟩
theorem unitsF_lt (s : Slt) : (unitsF s).Pairwise (· < ·) := by
  unfold unitsF
  rw [List.pairwise_map]
  refine List.Pairwise.imp ?_ (List.pairwise_lt_range (n := ((s.2.2 - s.2.1) / 4).toNat))
  intro a b h
  omega
theorem rawS_mem {xs : List Slt} {w o : Int} : o ∈ rawS xs w ↔ ∃ s ∈ xs, s.1 = w ∧ s.2.1 ≤ o ∧ o + 4 ≤ s.2.2 ∧ (o - s.2.1) % 4 = 0 := by
  unfold rawS
  rw [List.mem_flatMap]
  constructor
  · rintro ⟨s, hs, ho⟩
    rw [List.mem_filter] at hs
    exact ⟨s, hs.1, of_decide_eq_true hs.2, unitsF_mem.1 ho⟩
  · rintro ⟨s, hs, hw, ho⟩
    exact ⟨s, List.mem_filter.2 ⟨hs, decide_eq_true hw⟩, unitsF_mem.2 ho⟩
theorem rawS_len {n : Int} {w : Int} (hn : n ≤ 4096) {xs : List Slt} (h : ∀ s ∈ xs, okS n s) : (rawS xs w).length ≤ 1024 * xs.length := by
  induction xs with
  | nil => simp [rawS]
  | cons x xs ih =>
    have h1 := ih fun s hs => h s (by simp [hs])
    have h2 := h x (by simp)
    have h3 : (unitsF x).length ≤ 1024 := by unfold unitsF; rw [List.length_map, List.length_range]; omega
    unfold rawS at *
    rw [List.filter_cons]
    split <;> simp only [List.flatMap_cons, List.length_append, List.length_cons] <;> omega
theorem slOk_mem {n : Int} {xs : List Slt} (h : slOk n xs xs.length) : ∀ s ∈ xs, okS n s := fun s hs => by
  obtain ⟨i, hi, rfl⟩ := List.getElem_of_mem hs
  have := (h i hi).1
  rwa [show xs.getD i slE.d = xs[i] from by simp [List.getD, hi]] at this
theorem slOk_pw {n : Int} {xs : List Slt} (h : slOk n xs xs.length) : xs.Pairwise fun a b => ¬ meetP (slP a) (slP b) := by
  rw [List.pairwise_iff_getElem]
  intro i j hi hj hij
  have := (h j hj).2 i hij
  rwa [show xs.getD i slE.d = xs[i] from by simp [List.getD, hi], show xs.getD j slE.d = xs[j] from by simp [List.getD, hj]] at this
theorem pw_one {xs : List Slt} (h : xs.Pairwise fun a b => ¬ meetP (slP a) (slP b)) {s u : Slt} {o : Int} (hs : s ∈ xs) (hu : u ∈ xs) (h1 : inSl s o) (h2 : inSl u o) (ks : isS s.2.1 s.2.2) (ku : isS u.2.1 u.2.2) : s = u := by
  induction xs with
  | nil => simp at hs
  | cons x xs ih =>
    rw [List.pairwise_cons] at h
    have hm : ∀ a b : Slt, inSl a o → inSl b o → isS a.2.1 a.2.2 → isS b.2.1 b.2.2 → meetP (slP a) (slP b) := by
      intro a b ha hb ia ib
      unfold inSl isS at *
      simp only [meetP, slP, isS, meetS]
      omega
    rcases List.mem_cons.1 hs with e1 | e1 <;> rcases List.mem_cons.1 hu with e2 | e2
    · rw [e1, e2]
    · subst e1; exact (h.1 u e2 (hm _ _ h1 h2 ks ku)).elim
    · subst e2; exact (h.1 s e1 (hm _ _ h2 h1 ku ks)).elim
    · exact ih h.2 e1 e2
theorem beg_iff {n : Int} {xs : List Slt} (h : slOk n xs xs.length) {w o : Int} : begO xs w o ↔ o ∈ rawS xs w := by
  have hok := slOk_mem h
  have hpw := slOk_pw h
  rw [rawS_mem]
  unfold begO stO
  rcases hf : xs.find? (fun s => decide (inSl s o)) with _ | s
  · have hno := List.find?_eq_none.1 hf
    constructor
    · intro hx; simp only [begP] at hx; omega
    · rintro ⟨s, hs, _, h1, h2, _⟩
      have := hno s hs
      exact (this (decide_eq_true ⟨h1, by omega⟩)).elim
  · have hm := List.mem_of_find?_eq_some hf
    have hin : inSl s o := of_decide_eq_true (List.find?_some (p := fun s => decide (inSl s o)) hf)
    have hs := hok s hm
    simp only [stS, begP]
    constructor
    · intro hx
      refine ⟨s, hm, ?_⟩
      unfold inSl at hin
      split at hx <;> simp only at hx <;> omega
    · rintro ⟨u, hu, h1, h2, h3, h4⟩
      have e : s = u := pw_one hpw hm hu hin ⟨h2, by omega⟩ ⟨hs.2.2.1, hs.2.2.2.1⟩ (by have := hok u hu; exact ⟨this.2.2.1, this.2.2.2.1⟩)
      subst e
      rw [if_neg (by omega)]
      simp only
      omega
theorem rawS_nodup {n : Int} {xs : List Slt} (h : slOk n xs xs.length) (w : Int) : (rawS xs w).Nodup := by
  have hok := slOk_mem h
  unfold rawS List.Nodup
  rw [List.pairwise_flatMap]
  refine ⟨fun s _ => (unitsF_lt s).imp fun hlt => by omega, ?_⟩
  have hpw : (xs.filter fun s => decide (s.1 = w)).Pairwise fun a b => ¬ meetP (slP a) (slP b) := (slOk_pw h).filter _
  refine List.Pairwise.imp_of_mem ?_ hpw
  intro a b ha hb hab x hx y hy e
  subst e
  have h1 := unitsF_mem.1 hx
  have h2 := unitsF_mem.1 hy
  have h3 := hok a (List.mem_filter.1 ha).1
  have h4 := hok b (List.mem_filter.1 hb).1
  refine hab ?_
  simp only [meetP, slP, isS, meetS]
  omega
theorem lt_ext {xs ys : List Int} (hx : xs.Pairwise (· < ·)) (hy : ys.Pairwise (· < ·)) (h : ∀ o, o ∈ xs ↔ o ∈ ys) : xs = ys := by
  induction xs generalizing ys with
  | nil => cases ys with
    | nil => rfl
    | cons y ys => exact absurd ((h y).2 (by simp)) (by simp)
  | cons x xs ih => cases ys with
    | nil => exact absurd ((h x).1 (by simp)) (by simp)
    | cons y ys =>
      rw [List.pairwise_cons] at hx hy
      have e : x = y := by
        rcases List.mem_cons.1 ((h x).1 (by simp)) with e1 | e1
        · exact e1
        · rcases List.mem_cons.1 ((h y).2 (by simp)) with e2 | e2
          · exact e2.symm
          · have a := hx.1 y e2
            have b := hy.1 x e1
            omega
      subst e
      refine congrArg _ (ih hx.2 hy.2 fun o => ?_)
      constructor
      · intro ho
        rcases List.mem_cons.1 ((h o).1 (by simp [ho])) with e1 | e1
        · have := hx.1 o ho; omega
        · exact e1
      · intro ho
        rcases List.mem_cons.1 ((h o).2 (by simp [ho])) with e1 | e1
        · have := hy.1 o ho; omega
        · exact e1
theorem starts_eq {n : Int} {xs : List Slt} (h : slOk n xs xs.length) (w : Int) : sortI (rawS xs w) = docS n.toNat xs w := by
  have hp : (sortI (rawS xs w)).Perm (rawS xs w) := List.mergeSort_perm _ _
  have hs : (sortI (rawS xs w)).Pairwise (fun a b => decide (a ≤ b) = true) := List.pairwise_mergeSort (fun a b c h1 h2 => by simp only [decide_eq_true_eq] at *; omega) (fun a b => by simp only [Bool.or_eq_true, decide_eq_true_eq]; omega) _
  have hn : (sortI (rawS xs w)).Nodup := hp.nodup_iff.2 (rawS_nodup h w)
  have hlt : (sortI (rawS xs w)).Pairwise (· < ·) := (hs.and hn).imp fun h => by
    have h1 := of_decide_eq_true h.1
    have h2 := h.2
    omega
  refine lt_ext hlt (docS_lt _ _ _) fun o => ?_
  rw [hp.mem_iff, docS_mem, beg_iff h]
  constructor
  · intro ho
    obtain ⟨s, hs, _, h1, h2, _⟩ := rawS_mem.1 ho
    have := slOk_mem h s hs
    exact ⟨by omega, by omega, ho⟩
  · exact fun ho => ho.2.2
/-! which one is next -/
abbrev offP (o : Int) : Sp := (o, o + 1)
theorem offs_in {ys : List Int} (hn : ∀ o ∈ ys, 0 ≤ o) {o : Int} : inS (ys.map offP) o ↔ o ∈ ys := by
  constructor
  · rintro ⟨x, hx, hh⟩
    obtain ⟨y, hy, rfl⟩ := List.mem_map.1 hx
    have e : o = y := by unfold holdsS at hh; simp only at hh; omega
    rwa [e]
  · intro ho
    exact ⟨(o, o + 1), List.mem_map.2 ⟨o, ho, rfl⟩, by have := hn o ho; unfold holdsS; simp only; omega⟩
theorem cntT_flat {I : List Sp} (hc : Canon I) {f t : Int} (hf : 0 < f) (ht : 0 ≤ t) : ∀ k : Nat, (∀ u, t ≤ u → u < t + k → ¬ inS I (u % f)) → cntT I f (t + k) = cntT I f t := by
  intro k
  induction k with
  | zero => intro _; simp
  | succ k ih =>
    intro h
    have h1 := ih fun u a b => h u a (by omega)
    rcases cntT_step hc (f := f) (t := t + k) (by omega) hf with ⟨a, _⟩ | ⟨_, b⟩
    · exact (h _ (by omega) (by omega) a).elim
    · rw [Int.natCast_add, ← Int.add_assoc, Int.natCast_one, b, h1]
theorem least {p : Nat → Prop} : ∀ n, p n → ∃ m, m ≤ n ∧ p m ∧ ∀ i, i < m → ¬ p i := by
  intro n
  induction n using Nat.strongRecOn with
  | ind n ih =>
    intro hn
    by_cases h : ∃ i, i < n ∧ p i
    · obtain ⟨i, hi, hp⟩ := h
      obtain ⟨m, h1, h2, h3⟩ := ih i hi hp
      exact ⟨m, by omega, h2, h3⟩
    · exact ⟨n, Nat.le_refl _, hn, fun i hi hp => h ⟨i, hi, hp⟩⟩
theorem next_ex {xs : List Sp} {f t : Int} (hf : okF f) (ht : 0 ≤ t ∧ t ≤ 2147483647) (h : ∃ o, 0 ≤ o ∧ o < f ∧ inS xs o) :
    ∃ T, t ≤ T ∧ T < t + f ∧ inS xs (T % f) ∧ (∀ u, t ≤ u → u < T → ¬ inS xs (u % f)) ∧ NthP xs f t 1 T := by
  obtain ⟨o, h1, h2, h3⟩ := h
  have hq := qr (n := o - t) (f := f) (by omega)
  have e : (t + ((o - t) % f).toNat) % f = o := by
    rw [show t + (((o - t) % f).toNat : Int) = o - (o - t) / f * f from by omega]
    rw [Int.sub_mul_emod_self_right]
    exact Int.emod_eq_of_lt h1 h2
  obtain ⟨m, g1, g2, g3⟩ := least (p := fun d => inS xs ((t + (d : Int)) % f)) ((o - t) % f).toNat (by show inS xs _; rw [e]; exact h3)
  have hno : ∀ u, t ≤ u → u < t + m → ¬ inS xs (u % f) := fun u a b hu => g3 (u - t).toNat (by omega) (by show inS xs _; rwa [show t + ((u - t).toNat : Int) = u from by omega])
  have hC : Canon (meetI f (mergeF xs)) := meetI_canon (merge_inv xs).1
  have hmi : ∀ u : Int, inS (meetI f (mergeF xs)) (u % f) ↔ inS xs (u % f) := fun u => by
    rw [meetI_in, (merge_inv xs).2]
    have := qr (n := u) (f := f) (by omega)
    exact ⟨fun h => h.2, fun h => ⟨this.2.2, h⟩⟩
  have hc := cntT_flat hC (f := f) (by omega) ht.1 m fun u a b hu => hno u a b ((hmi u).1 hu)
  exact ⟨t + m, by omega, by omega, g2, hno, ⟨fun _ => ⟨by omega, (hmi _).2 g2, by omega⟩, fun hx => (hx ⟨o, h1, h2, h3⟩).elim, by omega⟩⟩
theorem NthP.uniq {xs : List Sp} {f t n T U : Int} (hf : 0 < f) (h : NthP xs f t n T) (g : NthP xs f t n U) : T = U := by
  by_cases hx : ∃ o, 0 ≤ o ∧ o < f ∧ inS xs o
  · exact (h.yes hx).uniq (g.yes hx) (meetI_canon (merge_inv xs).1) hf
  · rw [h.no hx, g.no hx]
/-! how many begin -/
def betF (ys : List Int) (f t : Int) : Int := (ys.map fun o => belowF t o (o + 1) f).sum
theorem betF_cons {y : Int} {ys : List Int} {f t : Int} : betF (y :: ys) f t = belowF t y (y + 1) f + betF ys f t := rfl
theorem betF_snoc {y : Int} {ys : List Int} {f t : Int} : betF (ys ++ [y]) f t = betF ys f t + belowF t y (y + 1) f := by simp [betF]
theorem betF_step {ys : List Int} {f t : Int} (hp : ys.Pairwise (· < ·)) (h : ∀ o ∈ ys, 0 ≤ o ∧ o < f) (ht : 0 ≤ t) (hf : 0 < f) : betF ys f (t + 1) = betF ys f t + if t % f ∈ ys then 1 else 0 := by
  induction ys with
  | nil => simp [betF]
  | cons y ys ih =>
    rw [List.pairwise_cons] at hp
    have h1 := ih hp.2 fun o ho => h o (by simp [ho])
    have h2 := h y (by simp)
    have h3 := belowF_step (t := t) (g := y) (h := y + 1) (f := f) ht hf h2.1 (by omega) (by omega)
    rw [betF_cons, betF_cons, h1, h3]
    by_cases e : t % f = y
    · have hno : ¬ t % f ∈ ys := fun hm => by have := hp.1 _ hm; omega
      rw [if_neg hno, if_pos (by omega), if_pos (by rw [e]; simp)]
      omega
    · rw [if_neg (by omega)]
      by_cases hm : t % f ∈ ys
      · rw [if_pos hm, if_pos (by simp [hm])]; omega
      · rw [if_neg hm, if_neg (by simp [hm, e])]; omega
theorem betF_frame {ys : List Int} {f t : Int} (hf : 0 < f) : betF ys f (t + f) = betF ys f t + ys.length := by
  induction ys with
  | nil => simp [betF]
  | cons y ys ih =>
    have e1 : (t + f) / f = t / f + 1 := Int.add_ediv_of_dvd_right (Int.dvd_refl f) |>.trans (by rw [Int.ediv_self (by omega)])
    have e2 : (t + f) % f = t % f := by simp
    rw [betF_cons, betF_cons, ih]
    unfold belowF
    rw [e1, e2, Int.add_mul, List.length_cons]
    omega
theorem betF_bd {ys : List Int} {f s t : Int} (h : ∀ o ∈ ys, 0 ≤ o ∧ o < f) (hs : 0 ≤ s) (hst : s ≤ t) (hf : 0 < f) : betF ys f s ≤ betF ys f t ∧ betF ys f t - betF ys f s ≤ (t - s) * ys.length := by
  induction ys with
  | nil => simp [betF]
  | cons y ys ih =>
    have h1 := ih fun o ho => h o (by simp [ho])
    have h2 := h y (by simp)
    have h3 := belowF_bd (g := y) (h := y + 1) (f := f) hf h2.1 (by omega) (by omega) (t - s).toNat s hs
    rw [show s + ((t - s).toNat : Int) = t from by omega] at h3
    rw [betF_cons, betF_cons, List.length_cons, Int.natCast_add, Int.mul_add, Int.natCast_one, Int.mul_one]
    omega
end Go.Proofs
