/- Spans: places, plainly: the row of spans that has just some places, in as few as can be. -/
import Derived.Test.YtdjpcfaidgofoaaGreatSpanE
set_option linter.all false
namespace Go.Proofs
open Go.Eng
set_option linter.unusedVariables false

/-- which places are in some span -/
abbrev inS (xs : List Sp) (n : Int) : Prop := ∃ x ∈ xs, holdsS x n
theorem inS_nil {n : Int} : ¬ inS [] n := by rintro ⟨x, h, _⟩; simp at h
theorem inS_cons {x : Sp} {xs : List Sp} {n : Int} : inS (x :: xs) n ↔ holdsS x n ∨ inS xs n := by simp [inS]
theorem inS_append {xs ys : List Sp} {n : Int} : inS (xs ++ ys) n ↔ inS xs n ∨ inS ys n := by
  constructor
  · rintro ⟨x, h, hx⟩
    rcases List.mem_append.1 h with h | h
    · exact .inl ⟨x, h, hx⟩
    · exact .inr ⟨x, h, hx⟩
  · rintro (⟨x, h, hx⟩ | ⟨x, h, hx⟩)
    · exact ⟨x, List.mem_append_left _ h, hx⟩
    · exact ⟨x, List.mem_append_right _ h, hx⟩
theorem inS_one {x : Sp} {n : Int} : inS [x] n ↔ holdsS x n := by simp [inS]
theorem inS_perm {xs ys : List Sp} (h : xs.Perm ys) {n : Int} : inS xs n ↔ inS ys n :=
  ⟨fun ⟨x, hx, p⟩ => ⟨x, h.mem_iff.1 hx, p⟩, fun ⟨x, hx, p⟩ => ⟨x, h.mem_iff.2 hx, p⟩⟩

/-- spans in order that do not touch -/
structure Canon (ys : List Sp) : Prop where
  is : ∀ y ∈ ys, isS y.1 y.2
  ap : ys.Pairwise fun a b => a.2 < b.1
theorem canon_nil : Canon [] := ⟨by simp, List.Pairwise.nil⟩
theorem canon_cons {y : Sp} {ys : List Sp} : Canon (y :: ys) ↔ isS y.1 y.2 ∧ (∀ z ∈ ys, y.2 < z.1) ∧ Canon ys := by
  constructor
  · intro ⟨h, p⟩
    have p := List.pairwise_cons.1 p
    exact ⟨h y (by simp), p.1, fun z hz => h z (by simp [hz]), p.2⟩
  · rintro ⟨h1, h2, h3⟩
    refine ⟨fun z hz => ?_, List.pairwise_cons.2 ⟨h2, h3.ap⟩⟩
    rcases List.mem_cons.1 hz with rfl | hz
    · exact h1
    · exact h3.is z hz
theorem canon_snoc {o : List Sp} {l : Sp} : Canon (o ++ [l]) ↔ Canon o ∧ isS l.1 l.2 ∧ ∀ y ∈ o, y.2 < l.1 := by
  constructor
  · intro ⟨h, p⟩
    have p := List.pairwise_append.1 p
    exact ⟨⟨fun y hy => h y (by simp [hy]), p.1⟩, h l (by simp), fun y hy => p.2.2 y hy l (by simp)⟩
  · rintro ⟨h1, h2, h3⟩
    refine ⟨fun z hz => ?_, List.pairwise_append.2 ⟨h1.ap, by simp, fun y hy z hz => ?_⟩⟩
    · rcases List.mem_append.1 hz with hz | hz
      · exact h1.is z hz
      · rw [List.mem_singleton] at hz; subst hz; exact h2
    · rw [List.mem_singleton] at hz; subst hz; exact h3 y hy

theorem canon_uniq : ∀ {xs ys : List Sp}, Canon xs → Canon ys → (∀ n, inS xs n ↔ inS ys n) → xs = ys
  | [], [], _, _, _ => rfl
  | [], y :: ys, _, h, e => by
    have hy := h.is y (by simp)
    obtain ⟨x, hx, _⟩ := (e y.1).2 ⟨y, by simp, by omega⟩
    simp at hx
  | x :: xs, [], h, _, e => by
    have hy := h.is x (by simp)
    obtain ⟨x, hx, _⟩ := (e x.1).1 ⟨x, by simp, by omega⟩
    simp at hx
  | x :: xs, y :: ys, hx, hy, e => by
    obtain ⟨x1, x2, x3⟩ := canon_cons.1 hx
    obtain ⟨y1, y2, y3⟩ := canon_cons.1 hy
    have lx : ∀ n, inS xs n → x.2 < n := fun n ⟨z, hz, p⟩ => by have := x2 z hz; omega
    have ly : ∀ n, inS ys n → y.2 < n := fun n ⟨z, hz, p⟩ => by have := y2 z hz; omega
    have e' : ∀ n, (holdsS x n ∨ inS xs n) ↔ (holdsS y n ∨ inS ys n) := fun n => by rw [← inS_cons, ← inS_cons]; exact e n
    have h1 : x.1 = y.1 := by
      have a := (e' x.1).1 (.inl (by omega))
      have b := (e' y.1).2 (.inl (by omega))
      have c := ly x.1
      have d := lx y.1
      rcases a with a | a <;> rcases b with b | b
      · omega
      · have := d b; omega
      · have := c a; omega
      · have := c a; have := d b; omega
    have h2 : x.2 = y.2 := by
      rcases Int.lt_trichotomy x.2 y.2 with h | h | h
      · rcases (e' x.2).2 (.inl (by omega)) with a | a
        · omega
        · have := lx _ a; omega
      · exact h
      · rcases (e' y.2).1 (.inl (by omega)) with a | a
        · omega
        · have := ly _ a; omega
    have h3 : xs = ys := canon_uniq x3 y3 fun n => by
      constructor
      · intro h
        have := lx n h
        rcases (e' n).1 (.inr h) with a | a
        · omega
        · exact a
      · intro h
        have := ly n h
        rcases (e' n).2 (.inr h) with a | a
        · omega
        · exact a
    rw [h3, Prod.ext h1 h2]

theorem lastS_snoc {o : List Sp} {l : Sp} : lastS (o ++ [l]) = l := by simp [lastS]
theorem set_last {o : List Sp} {l z : Sp} : (o ++ [l]).set ((o ++ [l]).length - 1) z = o ++ [z] := by simp
theorem snoc_of {out : List Sp} (h : out ≠ []) : ∃ o l, out = o ++ [l] := ⟨out.dropLast, out.getLast h, by rw [List.dropLast_concat_getLast]⟩

structure MInv (done out : List Sp) : Prop where
  canon : Canon out
  same : ∀ n, inS out n ↔ inS done n
  last : out ≠ [] → ∃ d ∈ done, (lastS out).1 = d.1
theorem mstep_inv {done out : List Sp} {s : Sp} (h : MInv done out) (hs : ∀ d ∈ done, d.1 ≤ s.1) : MInv (done ++ [s]) (mstep out s) := by
  obtain ⟨h1, h2, h3⟩ := h
  unfold mstep
  by_cases hi : isS s.1 s.2
  · rw [if_pos hi]
    by_cases hn : out = []
    · subst hn
      rw [if_neg (by simp)]
      refine ⟨canon_snoc.2 ⟨h1, hi, by simp⟩, fun n => by rw [inS_append, inS_append, h2], fun _ => ⟨s, by simp, by rw [lastS_snoc]⟩⟩
    · obtain ⟨o, l, rfl⟩ := snoc_of hn
      obtain ⟨c1, c2, c3⟩ := canon_snoc.1 h1
      rw [set_last, lastS_snoc]
      obtain ⟨d, hd, e⟩ := h3 hn
      rw [lastS_snoc] at e
      have hle := hs d hd
      by_cases hc : s.1 ≤ l.2
      · rw [if_pos ⟨hn, hc⟩]
        refine ⟨canon_snoc.2 ⟨c1, by simp only; omega, c3⟩, fun n => ?_, fun _ => ⟨d, by simp [hd], by rw [lastS_snoc]; exact e⟩⟩
        have := h2 n
        rw [inS_append, inS_one] at this
        rw [inS_append, inS_append, inS_one, inS_one, ← this]
        simp only [holdsS]
        constructor
        · rintro (a | a)
          · exact .inl (.inl a)
          · by_cases q : n < l.2
            · exact .inl (.inr (by omega))
            · exact .inr (by omega)
        · rintro ((a | a) | a)
          · exact .inl a
          · exact .inr (by omega)
          · exact .inr (by omega)
      · rw [if_neg (fun h => hc h.2)]
        refine ⟨canon_snoc.2 ⟨h1, hi, fun y hy => ?_⟩, fun n => by rw [inS_append (xs := o ++ [l]), inS_append (xs := done), h2], fun _ => ⟨s, by simp, by rw [lastS_snoc]⟩⟩
        rcases List.mem_append.1 hy with hy | hy
        · have := c3 y hy; omega
        · rw [List.mem_singleton] at hy; subst hy; omega
  · rw [if_neg hi]
    refine ⟨h1, fun n => ?_, fun h => by obtain ⟨d, hd, e⟩ := h3 h; exact ⟨d, by simp [hd], e⟩⟩
    rw [inS_append, inS_one, h2]
    have : ¬ holdsS s n := by unfold holdsS; omega
    simp [this]
theorem mfold_inv : ∀ {zs done out : List Sp}, MInv done out → Srt (done ++ zs) → MInv (done ++ zs) (zs.foldl mstep out)
  | [], done, out, h, _ => by simpa using h
  | z :: zs, done, out, h, hs => by
    have e : done ++ z :: zs = (done ++ [z]) ++ zs := by simp
    rw [e] at hs ⊢
    refine mfold_inv (mstep_inv h fun d hd => ?_) hs
    have := (List.pairwise_append.1 (List.pairwise_append.1 hs).1).2.2 d hd z (by simp)
    unfold leS ltS at this
    omega
theorem merge_inv (xs : List Sp) : Canon (mergeF xs) ∧ ∀ n, inS (mergeF xs) n ↔ inS xs n := by
  obtain ⟨hp, hs⟩ := sortF_spec xs
  have := mfold_inv (zs := sortF xs) (done := []) (out := []) ⟨canon_nil, fun n => Iff.rfl, fun h => (h rfl).elim⟩ (by simpa using hs)
  rw [List.nil_append] at this
  exact ⟨this.canon, fun n => (this.same n).trans (inS_perm hp)⟩
theorem mergeF_eq {xs ys : List Sp} (h : Canon ys) (e : ∀ n, inS ys n ↔ inS xs n) : mergeF xs = ys :=
  canon_uniq (merge_inv xs).1 h fun n => ((merge_inv xs).2 n).trans (e n).symm
theorem mergeF_same {xs ys : List Sp} (e : ∀ n, inS xs n ↔ inS ys n) : mergeF xs = mergeF ys :=
  mergeF_eq (merge_inv ys).1 fun n => ((merge_inv ys).2 n).trans (e n).symm
theorem merge_merge (xs : List Sp) : mergeF (mergeF xs) = mergeF xs := mergeF_same (merge_inv xs).2

/-- the runs of places below n of which something holds -/
structure RunsOf (n : Int) (p : Int → Prop) (ys : List Sp) : Prop where
  canon : Canon ys
  same : ∀ m, inS ys m ↔ 0 ≤ m ∧ m < n ∧ p m
theorem RunsOf.uniq {n : Int} {p : Int → Prop} {xs ys : List Sp} (h : RunsOf n p xs) (g : RunsOf n p ys) : xs = ys := canon_uniq h.canon g.canon fun m => (h.same m).trans (g.same m).symm
noncomputable def runF (n : Int) (p : Int → Prop) : List Sp := Classical.epsilon (RunsOf n p)
theorem runF_eq {n : Int} {p : Int → Prop} {ys : List Sp} (h : RunsOf n p ys) : runF n p = ys := (Classical.epsilon_spec (p := RunsOf n p) ⟨ys, h⟩).uniq h
theorem RunsOf.le {n : Int} {p : Int → Prop} {ys : List Sp} (h : RunsOf n p ys) : ∀ y ∈ ys, y.2 ≤ n := fun y hy => by
  have hi := h.canon.is y hy
  have := (h.same (y.2 - 1)).1 ⟨y, hy, by omega⟩
  omega
theorem runs_nil {n : Int} {p : Int → Prop} (hn : n ≤ 0) : RunsOf n p [] := ⟨canon_nil, fun m => ⟨fun h => (inS_nil h).elim, fun h => by omega⟩⟩
theorem runs_skip {k : Int} {p : Int → Prop} {out : List Sp} (h : RunsOf k p out) (hp : ¬ p k) : RunsOf (k + 1) p out :=
  ⟨h.canon, fun m => (h.same m).trans ⟨fun ⟨a, b, c⟩ => ⟨a, by omega, c⟩, fun ⟨a, b, c⟩ => ⟨a, by
    by_cases e : m = k
    · rw [e] at c; exact (hp c).elim
    · omega, c⟩⟩⟩
theorem runs_new {k : Int} {p : Int → Prop} {out : List Sp} (h : RunsOf k p out) (h0 : 0 ≤ k) (hp : p k) (hl : out = [] ∨ (lastS out).2 ≠ k) : RunsOf (k + 1) p (out ++ [(k, k + 1)]) := by
  refine ⟨canon_snoc.2 ⟨h.canon, by simp only; omega, fun y hy => ?_⟩, fun m => ?_⟩
  · have hle := h.le
    rcases hl with rfl | hl
    · simp at hy
    · have hn : out ≠ [] := fun e => by rw [e] at hy; simp at hy
      obtain ⟨o, l, rfl⟩ := snoc_of hn
      rw [lastS_snoc] at hl
      obtain ⟨c1, c2, c3⟩ := canon_snoc.1 h.canon
      have l2 := hle l (by simp)
      rcases List.mem_append.1 hy with hy | hy
      · have := c3 y hy; simp only; omega
      · rw [List.mem_singleton] at hy; subst hy; simp only; omega
  · rw [inS_append, inS_one, h.same]
    simp only [holdsS]
    constructor
    · rintro (⟨a, b, c⟩ | a)
      · exact ⟨a, by omega, c⟩
      · have e : m = k := by omega
        subst e; exact ⟨h0, by omega, hp⟩
    · rintro ⟨a, b, c⟩
      by_cases e : m < k
      · exact .inl ⟨a, e, c⟩
      · exact .inr (by omega)
theorem runs_more {k : Int} {p : Int → Prop} {out : List Sp} (h : RunsOf k p out) (h0 : 0 ≤ k) (hp : p k) (hn : out ≠ []) (hl : (lastS out).2 = k) : RunsOf (k + 1) p (out.set (out.length - 1) ((lastS out).1, k + 1)) := by
  obtain ⟨o, l, rfl⟩ := snoc_of hn
  rw [set_last, lastS_snoc]
  rw [lastS_snoc] at hl
  obtain ⟨c1, c2, c3⟩ := canon_snoc.1 h.canon
  refine ⟨canon_snoc.2 ⟨c1, by simp only; omega, c3⟩, fun m => ?_⟩
  have hs := h.same m
  rw [inS_append, inS_one] at hs ⊢
  simp only [holdsS] at hs ⊢
  constructor
  · rintro (a | a)
    · have := hs.1 (.inl a); exact ⟨this.1, by omega, this.2.2⟩
    · by_cases e : m = k
      · subst e; exact ⟨h0, by omega, hp⟩
      · have := hs.1 (.inr (by omega)); exact ⟨this.1, by omega, this.2.2⟩
  · rintro ⟨a, b, c⟩
    by_cases e : m < k
    · rcases hs.2 ⟨a, e, c⟩ with g | g
      · exact .inl g
      · exact .inr (by omega)
    · exact .inr (by omega)
theorem runs_len {n : Nat} {p : Int → Prop} {ys : List Sp} (h : RunsOf n p ys) : ys.length ≤ n := by
  have key : ∀ (ys : List Sp) (a : Int), Canon ys → (∀ y ∈ ys, a ≤ y.1 ∧ y.2 ≤ n) → 0 ≤ a → a ≤ n → (ys.length : Int) ≤ n - a := by
    intro ys
    induction ys with
    | nil => intro a _ _ _ h; simp; omega
    | cons y ys ih =>
      intro a hc hb h0 hn
      obtain ⟨c1, c2, c3⟩ := canon_cons.1 hc
      have hy := hb y (by simp)
      have := ih y.2 c3 (fun z hz => ⟨by have := c2 z hz; omega, (hb z (by simp [hz])).2⟩) (by omega) (by omega)
      simp only [List.length_cons]
      omega
  have := key ys 0 h.canon (fun y hy => ⟨(h.canon.is y hy).1, h.le y hy⟩) (by omega) (by omega)
  omega

/-- gaps: what stands in none, by the merged ones that were seen -/
structure GInv (M : List Sp) (k : Nat) (at_ : Int) (out : List Sp) : Prop where
  canon : Canon out
  same : ∀ m, inS out m ↔ 0 ≤ m ∧ m < at_ ∧ ¬ inS (M.take k) m
  start : k = 0 ∧ at_ = 0 ∨ 0 < k ∧ at_ = (M.getD (k - 1) spE.d).2
  top : ∀ y ∈ out, y.2 < at_
theorem gap_step {M : List Sp} {k : Nat} {at_ : Int} {out : List Sp} (hM : Canon M) (hk : k < M.length) (h : GInv M k at_ out) :
    GInv M (k + 1) (M.getD k spE.d).2 (if at_ < (M.getD k spE.d).1 then out ++ [(at_, (M.getD k spE.d).1)] else out) := by
  obtain ⟨h1, h2, h3, h4⟩ := h
  have hs := hM.is _ (getD_mem (d := spE.d) hk)
  have htk : M.take (k + 1) = M.take k ++ [M.getD k spE.d] := take_snoc hk
  have hat : 0 ≤ at_ ∧ at_ ≤ (M.getD k spE.d).1 := by
    rcases h3 with ⟨_, e⟩ | ⟨h0, e⟩
    · omega
    · have hp : (M.getD (k - 1) spE.d).2 < (M.getD k spE.d).1 := by
        have := List.pairwise_iff_getElem.1 hM.ap (k - 1) k (by omega) hk (by omega)
        simpa [List.getD, hk, show k - 1 < M.length from by omega] using this
      have := hM.is _ (getD_mem (d := spE.d) (show k - 1 < M.length by omega))
      omega
  generalize hsd : M.getD k spE.d = s at *
  have hno : ∀ m, inS (M.take k) m → m < at_ := by
    rintro m ⟨z, hz, hm⟩
    rcases h3 with ⟨h0, e⟩ | ⟨h0, e⟩
    · subst h0; simp at hz
    · obtain ⟨i, hi, rfl⟩ := List.getElem_of_mem hz
      have hi' : i < k := by rw [List.length_take] at hi; omega
      rw [List.getElem_take] at hm
      by_cases hik : i = k - 1
      · subst hik
        rw [e]
        have : M.getD (k - 1) spE.d = M[k - 1] := by simp [List.getD, show k - 1 < M.length from by omega]
        rw [this]; omega
      · have := List.pairwise_iff_getElem.1 hM.ap i (k - 1) (by omega) (by omega) (by omega)
        have hk1 := hM.is _ (List.getElem_mem (show k - 1 < M.length by omega))
        have : M.getD (k - 1) spE.d = M[k - 1] := by simp [List.getD, show k - 1 < M.length from by omega]
        rw [e, this]; omega
  by_cases hlt : at_ < s.1
  · rw [if_pos hlt]
    refine ⟨canon_snoc.2 ⟨h1, by simp only; omega, fun y hy => by have := h4 y hy; simp only; omega⟩, fun m => ?_, .inr ⟨by omega, by show s.2 = (M.getD k spE.d).2; rw [hsd]⟩, fun y hy => ?_⟩
    · rw [inS_append, inS_one, h2, htk, inS_append, inS_one]
      have hn := hno m
      simp only [holdsS]
      constructor
      · rintro (⟨a, b, c⟩ | a)
        · exact ⟨a, by omega, fun q => by rcases q with q | q; exact c q; omega⟩
        · exact ⟨by omega, by omega, fun q => by rcases q with q | q; (have := hn q; omega); omega⟩
      · rintro ⟨a, b, c⟩
        by_cases e : m < at_
        · exact .inl ⟨a, e, fun q => c (.inl q)⟩
        · refine .inr ⟨by omega, by omega, ?_⟩
          by_cases e2 : m < s.1
          · exact e2
          · exact (c (.inr (by omega))).elim
    · rcases List.mem_append.1 hy with hy | hy
      · have := h4 y hy; omega
      · rw [List.mem_singleton] at hy; subst hy; simp only; omega
  · rw [if_neg hlt]
    refine ⟨h1, fun m => ?_, .inr ⟨by omega, by show s.2 = (M.getD k spE.d).2; rw [hsd]⟩, fun y hy => by have := h4 y hy; omega⟩
    rw [h2, htk, inS_append, inS_one]
    have hn := hno m
    simp only [holdsS]
    constructor
    · rintro ⟨a, b, c⟩
      exact ⟨a, by omega, fun q => by rcases q with q | q; exact c q; omega⟩
    · rintro ⟨a, b, c⟩
      by_cases e : m < at_
      · exact ⟨a, e, fun q => c (.inl q)⟩
      · exact (c (.inr (by omega))).elim
theorem gap_start {M : List Sp} : GInv M 0 0 [] := ⟨canon_nil, fun m => ⟨fun h => (inS_nil h).elim, fun h => by omega⟩, .inl ⟨rfl, rfl⟩, by simp⟩
theorem gap_end {M : List Sp} {k : Nat} {at_ n : Int} {out : List Sp} (hM : Canon M) (hk : k ≤ M.length) (h : GInv M k at_ out) (hn : ∀ j, k ≤ j → j < M.length → n ≤ (M.getD j spE.d).1)
    (hf : 0 < k → (M.getD (k - 1) spE.d).1 < n) : RunsOf n (fun m => ¬ inS M m) (if at_ < n then out ++ [(at_, n)] else out) := by
  obtain ⟨h1, h2, h3, h4⟩ := h
  have hat : 0 ≤ at_ := by
    rcases h3 with ⟨_, e⟩ | ⟨h0, e⟩
    · omega
    · have := hM.is _ (getD_mem (d := spE.d) (show k - 1 < M.length by omega)); omega
  have hno : ∀ m, inS (M.take k) m → m < at_ := by
    rintro m ⟨z, hz, hm⟩
    rcases h3 with ⟨h0, e⟩ | ⟨h0, e⟩
    · subst h0; simp at hz
    · obtain ⟨i, hi, rfl⟩ := List.getElem_of_mem hz
      have hi' : i < k := by rw [List.length_take] at hi; omega
      rw [List.getElem_take] at hm
      have hg : M.getD (k - 1) spE.d = M[k - 1] := by simp [List.getD, show k - 1 < M.length from by omega]
      by_cases hik : i = k - 1
      · subst hik; rw [e, hg]; omega
      · have := List.pairwise_iff_getElem.1 hM.ap i (k - 1) (by omega) (by omega) (by omega)
        have hk1 := hM.is _ (List.getElem_mem (show k - 1 < M.length by omega))
        rw [e, hg]; omega
  have hin : ∀ m, m < n → (inS M m ↔ inS (M.take k) m) := by
    intro m hm
    constructor
    · rintro ⟨z, hz, hmz⟩
      obtain ⟨i, hi, rfl⟩ := List.getElem_of_mem hz
      by_cases hik : i < k
      · have e : (M.take k)[i]'(by rw [List.length_take]; omega) = M[i] := List.getElem_take
        exact ⟨M[i], by rw [← e]; exact List.getElem_mem _, hmz⟩
      · have := hn i (by omega) hi
        have hg : M.getD i spE.d = M[i] := by simp [List.getD, hi]
        rw [hg] at this; omega
    · rintro ⟨z, hz, hmz⟩
      exact ⟨z, List.mem_of_mem_take hz, hmz⟩
  by_cases hlt : at_ < n
  · rw [if_pos hlt]
    refine ⟨canon_snoc.2 ⟨h1, by simp only; omega, fun y hy => by have := h4 y hy; simp only; omega⟩, fun m => ?_⟩
    rw [inS_append, inS_one, h2]
    have hn2 := hno m
    simp only [holdsS]
    constructor
    · rintro (⟨a, b, c⟩ | a)
      · exact ⟨a, by omega, fun q => c ((hin m (by omega)).1 q)⟩
      · exact ⟨by omega, by omega, fun q => by have := hn2 ((hin m (by omega)).1 q); omega⟩
    · rintro ⟨a, b, c⟩
      by_cases e : m < at_
      · exact .inl ⟨a, e, fun q => c ((hin m b).2 q)⟩
      · exact .inr (by omega)
  · rw [if_neg hlt]
    refine ⟨h1, fun m => ?_⟩
    rw [h2]
    constructor
    · rintro ⟨a, b, c⟩
      have hb : m < n := by
        by_cases e : m < n
        · exact e
        · exfalso
          rcases h3 with ⟨_, e3⟩ | ⟨h0, e3⟩
          · omega
          · have hf := hf h0
            have hi := hM.is _ (getD_mem (d := spE.d) (show k - 1 < M.length by omega))
            refine c ⟨M.getD (k - 1) spE.d, ?_, by omega⟩
            have : M.getD (k - 1) spE.d = (M.take k)[k - 1]'(by rw [List.length_take]; omega) := by
              rw [List.getElem_take]; simp [List.getD, show k - 1 < M.length from by omega]
            rw [this]
            exact List.getElem_mem _
      exact ⟨a, hb, fun q => c ((hin m hb).1 q)⟩
    · rintro ⟨a, b, c⟩
      exact ⟨a, by omega, fun q => c ((hin m b).2 q)⟩

open Classical in
/-- how many places below n -/
noncomputable def cntF (p : Int → Prop) : Nat → Int
  | 0 => 0
  | n + 1 => cntF p n + if p n then 1 else 0
theorem cntF_bd (p : Int → Prop) : ∀ n, 0 ≤ cntF p n ∧ cntF p n ≤ n
  | 0 => by simp [cntF]
  | n + 1 => by
    have := cntF_bd p n
    simp only [cntF]
    split <;> omega
theorem cntF_congr {p q : Int → Prop} : ∀ n : Nat, (∀ m : Int, 0 ≤ m → m < n → (p m ↔ q m)) → cntF p n = cntF q n
  | 0, _ => rfl
  | n + 1, h => by
    simp only [cntF]
    rw [cntF_congr n fun m h0 h1 => h m h0 (by omega)]
    have := h n (by omega) (by omega)
    by_cases hp : p n
    · rw [if_pos hp, if_pos (this.1 hp)]
    · rw [if_neg hp, if_neg (fun hq => hp (this.2 hq))]
theorem cntF_no {p : Int → Prop} : ∀ n : Nat, (∀ m : Int, 0 ≤ m → m < n → ¬ p m) → cntF p n = 0
  | 0, _ => rfl
  | n + 1, h => by
    simp only [cntF]
    rw [cntF_no n fun m h0 h1 => h m h0 (by omega), if_neg (h n (by omega) (by omega))]
    rfl
theorem cntF_or {p q : Int → Prop} : ∀ n : Nat, (∀ m : Int, 0 ≤ m → m < n → p m → ¬ q m) → cntF (fun m => p m ∨ q m) n = cntF p n + cntF q n
  | 0, _ => rfl
  | n + 1, h => by
    simp only [cntF]
    rw [cntF_or n fun m h0 h1 => h m h0 (by omega)]
    have := h n (by omega) (by omega)
    by_cases hp : p n
    · rw [if_pos hp, if_neg (this hp), if_pos (.inl hp)]; omega
    · by_cases hq : q n
      · rw [if_neg hp, if_pos hq, if_pos (.inr hq)]; omega
      · rw [if_neg hp, if_neg hq, if_neg (fun x => x.elim hp hq)]; omega
theorem cntF_span {a b : Int} (h0 : 0 ≤ a) (h1 : a ≤ b) : ∀ n : Nat, cntF (fun m => a ≤ m ∧ m < b) n = max 0 (min b n - a)
  | 0 => by simp [cntF]; omega
  | n + 1 => by
    simp only [cntF]
    rw [cntF_span h0 h1 n]
    split <;> omega
/-- spans none of which meet have as many places together as by themselves -/
theorem total_cnt {N : Nat} : ∀ {ys : List Sp}, (∀ y ∈ ys, isS y.1 y.2 ∧ y.2 ≤ N) → (ys.Pairwise fun a b => ¬ meetP a b) → totalS ys = cntF (inS ys) N
  | [], _, _ => by rw [cntF_no N fun m _ _ => inS_nil]; rfl
  | y :: ys, h, hp => by
    have hy := h y (by simp)
    have hp := List.pairwise_cons.1 hp
    have e : totalS (y :: ys) = (y.2 - y.1) + totalS ys := by simp [totalS]
    rw [e, total_cnt (fun z hz => h z (by simp [hz])) hp.2]
    have e2 : cntF (inS (y :: ys)) N = cntF (fun m => (y.1 ≤ m ∧ m < y.2) ∨ inS ys m) N := cntF_congr N fun m _ _ => by rw [inS_cons]; simp only [holdsS]; constructor <;> (rintro (a | a) <;> first | exact .inr a | exact .inl (by omega))
    rw [e2, cntF_or N ?_, cntF_span hy.1.1 (by omega)]
    · omega
    · rintro m _ _ a ⟨z, hz, hm⟩
      have hz2 := h z (by simp [hz])
      exact hp.1 z hz ⟨hy.1, hz2.1, by omega, by omega⟩
theorem canon_apart {ys : List Sp} (h : Canon ys) : ys.Pairwise fun a b => ¬ meetP a b := h.ap.imp fun {a b} hab hm => by
  obtain ⟨_, _, _, h4⟩ := hm; omega
theorem total_merge {N : Nat} {xs : List Sp} (h : ∀ x ∈ xs, x.2 ≤ N) : totalS (mergeF xs) = cntF (inS xs) N := by
  rw [total_cnt (merge_ok h) (canon_apart (merge_inv xs).1)]
  exact cntF_congr N fun m _ _ => (merge_inv xs).2 m
theorem firstF_neg {xs : List Sp} : (firstF xs).1 < 0 ↔ ∀ m, m < xs.length → ∀ j, j < m → ¬ meetP (xs.getD j spE.d) (xs.getD m spE.d) := by
  constructor
  · intro h m hm j hj hmeet
    by_cases hx : ∃ p : Nat × Nat, FirstP xs p.1 p.2
    · obtain ⟨p, hp⟩ := hx
      rw [firstF_some hp] at h
      simp only at h
      omega
    · -- the least pair is one
      have key : ∀ M, ∀ m, m ≤ M → m < xs.length → ∀ j, j < m → ¬ meetP (xs.getD j spE.d) (xs.getD m spE.d) := by
        intro M
        induction M with
        | zero => intro m h1 _ j h2; omega
        | succ M ih =>
          intro m h1 h2 j h3
          by_cases e : m ≤ M
          · exact ih m e h2 j h3
          · have e : m = M + 1 := by omega
            subst e
            have key2 : ∀ J, ∀ j, j ≤ J → j < M + 1 → ¬ meetP (xs.getD j spE.d) (xs.getD (M + 1) spE.d) := by
              intro J
              induction J with
              | zero =>
                intro j hj _ hm2
                have : j = 0 := by omega
                subst this
                exact hx ⟨(0, M + 1), ⟨by omega, h2, hm2, fun j hj => by omega, fun m hm j hj => ih m (by omega) (by omega) j hj⟩⟩
              | succ J ihJ =>
                intro j hj h5 hm2
                by_cases e : j ≤ J
                · exact ihJ j e h5 hm2
                · have : j = J + 1 := by omega
                  subst this
                  exact hx ⟨(J + 1, M + 1), ⟨by simp only; omega, h2, hm2, fun j hj => ihJ j (by simp only at hj; omega) (by simp only at hj; omega), fun m hm j hj => ih m (by simp only at hm; omega) (by simp only at hm; omega) j hj⟩⟩
            exact key2 j j (Nat.le_refl j) h3
      exact key m m (Nat.le_refl m) hm j hj hmeet
  · intro h
    rw [firstF_none h]
    simp
theorem meetP_comm {a b : Sp} : meetP a b ↔ meetP b a := by unfold meetP meetS; constructor <;> (intro h; omega)
theorem apart_pairs {xs : List Sp} (h : apartS xs) : xs.Pairwise fun a b => ¬ meetP a b := by
  rw [List.pairwise_iff_getElem]
  intro i j hi hj hij
  have := firstF_neg.1 h.1 j hj i hij
  simpa [List.getD, hi, hj] using this
/-- the sort, by insertion -/
theorem ins_step {xs out : List Sp} {x : Sp} {j : Nat} (h : Sorted xs out) (hj : j ≤ out.length) (g : ∀ i, j ≤ i → i < out.length → ltS x (out.getD i spE.d)) (g0 : 0 < j → ¬ ltS x (out.getD (j - 1) spE.d)) :
    Sorted (xs ++ [x]) (out.take j ++ [x] ++ out.drop j) := by
  obtain ⟨hp, hs⟩ := h
  have e : out.take j ++ [x] ++ out.drop j = out.take j ++ x :: out.drop j := by simp
  rw [e]
  refine ⟨?_, ?_⟩
  · have h1 : (out.take j ++ x :: out.drop j).Perm (x :: (out.take j ++ out.drop j)) := List.perm_middle
    rw [List.take_append_drop] at h1
    exact h1.trans ((hp.cons x).trans (List.perm_append_comm (l₁ := [x]) (l₂ := xs)))
  · refine ins_sorted (by rw [List.take_append_drop]; exact hs) (fun y hy => ?_) (fun y hy => ?_)
    · obtain ⟨i, hi, rfl⟩ := List.getElem_of_mem hy
      rw [List.length_drop] at hi
      have := g (j + i) (by omega) (by omega)
      rw [List.getElem_drop]
      have e : out.getD (j + i) spE.d = out[j + i] := by simp [List.getD, show j + i < out.length from by omega]
      rw [e] at this
      exact ltS_leS this
    · by_cases h0 : 0 < j
      · obtain ⟨i, hi, rfl⟩ := List.getElem_of_mem hy
        have hi' : i < j := by rw [List.length_take] at hi; omega
        rw [List.getElem_take]
        have e : out.getD (j - 1) spE.d = out[j - 1] := by simp [List.getD, show j - 1 < out.length from by omega]
        have e2 : out.getD i spE.d = out[i] := by simp [List.getD, show i < out.length from by omega]
        have := g0 h0
        have hle := srt_get hs (show i ≤ j - 1 by omega) (by omega)
        rw [e2] at hle
        exact leS_trans hle this
      · have : j = 0 := by omega
        subst this
        simp at hy
theorem runs_pos (n : Nat) (p : Int → Prop) : RunsOf n p (runF n p) := by
  have key : ∀ n : Nat, ∃ ys, RunsOf n p ys := by
    intro n
    induction n with
    | zero => exact ⟨[], runs_nil (by omega)⟩
    | succ n ih =>
      obtain ⟨out, h⟩ := ih
      rw [Int.natCast_add]
      by_cases hp : p n
      · by_cases hl : out ≠ [] ∧ (lastS out).2 = n
        · exact ⟨_, runs_more h (by omega) hp hl.1 hl.2⟩
        · exact ⟨_, runs_new h (by omega) hp (by by_cases e : out = []; exact .inl e; exact .inr fun q => hl ⟨e, q⟩)⟩
      · exact ⟨_, runs_skip h hp⟩
  exact Classical.epsilon_spec (key n)
theorem runs_ok {n : Int} {p : Int → Prop} : RunsOf n p (runF n p) := by
  by_cases h : 0 ≤ n
  · obtain ⟨m, rfl⟩ := Int.eq_ofNat_of_zero_le h
    exact runs_pos m p
  · rw [runF_eq (runs_nil (by omega))]; exact runs_nil (by omega)
end Go.Proofs
