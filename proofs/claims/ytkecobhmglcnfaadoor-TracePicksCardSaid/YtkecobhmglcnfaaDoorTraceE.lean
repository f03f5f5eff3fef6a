/- Picked marks: the statement. -/
import Derived.Test.YtkecobhmglcnfaaDoorTraceB
import Derived.Test.YtkecobhmglcnfaaDoorTraceD
set_option linter.all false
namespace Go.Proofs
open Go.Eng
open Classical
set_option linter.unusedVariables false
set_option maxRecDepth 100000
set_option maxHeartbeats 40000000
theorem srt_step {xs : List Mrk} {n : Nat} (hn : n < xs.length) : sortT (xs.take (n + 1)) ↔ sortT (xs.take n) ∧ (n = 0 ∨ (xs.getD (n - 1) mrE.d).t ≤ (xs.getD n mrE.d).t) := by
  have l1 : (xs.take (n + 1)).length = n + 1 := by rw [List.length_take]; omega
  have l0 : (xs.take n).length = n := by rw [List.length_take]; omega
  unfold sortT
  rw [l1, l0]
  constructor
  · intro h
    refine ⟨fun i hi => ?_, ?_⟩
    · have := h i (by omega)
      rw [getD_take (by omega), getD_take (by omega)] at this
      rw [getD_take (by omega), getD_take (by omega)]
      exact this
    · by_cases h0 : n = 0
      · exact .inl h0
      · have := h (n - 1) (by omega)
        rw [getD_take (by omega), getD_take (by omega), show n - 1 + 1 = n from by omega] at this
        exact .inr this
  · rintro ⟨h, h'⟩ i hi
    rw [getD_take (by omega), getD_take (by omega)]
    by_cases hin : i + 1 < n
    · have := h i hin
      rw [getD_take (by omega), getD_take (by omega)] at this
      exact this
    · have e : n = i + 1 := by omega
      subst e
      rcases h' with h' | h'
      · omega
      · exact h'
theorem sb_f {xs : List Mrk} {n : Nat} {b : Bool} (hn : n < xs.length) (hi : b = true ↔ sortT (xs.take n)) (hb : b = false) : (false = true ↔ sortT (xs.take (n + 1))) :=
  ⟨fun h => absurd h (by decide), fun h => by rw [srt_step hn] at h; rw [hi.2 h.1] at hb; cases hb⟩
theorem sb_0 {xs : List Mrk} {n : Nat} {b : Bool} (hn : n < xs.length) (hi : b = true ↔ sortT (xs.take n)) (hb : b = true) (h0 : (n : Int) = 0) : (true = true ↔ sortT (xs.take (n + 1))) :=
  ⟨fun _ => (srt_step hn).2 ⟨hi.1 hb, .inl (by omega)⟩, fun _ => rfl⟩
theorem sb_n {xs : List Mrk} {n : Nat} {b : Bool} (hn : n < xs.length) (hi : b = true ↔ sortT (xs.take n)) (hb : b = true) (h0 : ¬ (n : Int) = 0) : (decide ((xs.getD ((n : Int) - 1).toNat mrE.d).t ≤ (xs.getD n mrE.d).t) = true ↔ sortT (xs.take (n + 1))) := by
  have e : ((n : Int) - 1).toNat = n - 1 := by omega
  rw [decide_eq_true_iff, srt_step hn, e]
  exact ⟨fun h => ⟨hi.1 hb, .inr h⟩, fun h => h.2.resolve_left (by omega)⟩
theorem filter_at {α : Type} {p : α → Bool} {d : α} {xs : List α} {n : Nat} (hn : n < xs.length) (h : p (xs.getD n d) = true) : ((xs.take n).filter p).length < (xs.filter p).length ∧ (xs.filter p).getD ((xs.take n).filter p).length d = xs.getD n d := by
  have e : xs = xs.take n ++ xs.getD n d :: xs.drop (n + 1) := by
    have e1 : xs.getD n d = xs[n] := by simp [List.getD, hn]
    rw [e1, ← List.drop_eq_getElem_cons hn, List.take_append_drop]
  have e2 : xs.filter p = (xs.take n).filter p ++ xs.getD n d :: (xs.drop (n + 1)).filter p := by
    conv => lhs; rw [e]
    rw [List.filter_append, List.filter_cons, if_pos h]
  rw [e2]
  refine ⟨by rw [List.length_append, List.length_cons]; omega, ?_⟩
  simp [List.getD]
abbrev pY (ss : List Int) (m : Mrk) : Bool := decide (m.s ∈ ss)
abbrev pN (ss : List Int) (m : Mrk) : Bool := !decide (m.s ∈ ss)
abbrev pH (f t : Int) (m : Mrk) : Bool := decide (0 ≤ f ∧ f ≤ m.t ∧ m.t < t)
abbrev pO (m : Mrk) : Bool := decide (7 ≤ m.s ∧ m.s ≤ 9)
/-- the sorts of all others -/
def restS (ss : List Int) (xs : List Mrk) : List Int := (xs.filter (pN ss)).map fun m => m.s
theorem rest_filter (ss : List Int) (xs : List Mrk) : xs.filter (fun m => decide (m.s ∈ restS ss xs)) = xs.filter (pN ss) := by
  refine List.filter_congr fun m hm => ?_
  unfold pN
  by_cases h : m.s ∈ ss
  · rw [decide_eq_true h, decide_eq_false]
    · rfl
    · intro hr
      obtain ⟨m', hm', he⟩ := List.mem_map.1 hr
      have := (List.mem_filter.1 hm').2
      simp [pN, he, h] at this
  · rw [decide_eq_false h, decide_eq_true]
    · rfl
    · exact List.mem_map.2 ⟨m, List.mem_filter.2 ⟨hm, by simp [h]⟩, rfl⟩
theorem rest_yes {ss : List Int} {xs : List Mrk} {k : Nat} (hk : k < xs.length) (h : ¬ (xs.getD k mrE.d).s ∈ ss) : restS ss (xs.take (k + 1)) = restS ss (xs.take k) ++ [(xs.getD k mrE.d).s] := by
  unfold restS
  rw [filter_yes (p := pN ss) (d := mrE.d) hk (by show (!decide _) = true; rw [decide_eq_false h]; rfl), List.map_append]
  rfl
theorem rest_not {ss : List Int} {xs : List Mrk} {k : Nat} (hk : k < xs.length) (h : (xs.getD k mrE.d).s ∈ ss) : restS ss (xs.take (k + 1)) = restS ss (xs.take k) := by
  unfold restS
  rw [filter_not (p := pN ss) (d := mrE.d) hk (by show (!decide _) = false; rw [decide_eq_true h]; rfl)]
abbrev mr60 (xs : List Mrk) : List Mrk := List.take (min (xs.length : Int) 60).toNat xs
abbrev so20 (ss : List Int) : List Int := List.take (min (ss.length : Int) 20).toNat ss
structure Hid (G : Prop) : Prop where
  go : G
/-- a statement out of five -/
def mk5 {X : Prop} (G1 G2 G3 G4 G5 : Prop) (h : Hid G1 → Hid G2 → Hid G3 → Hid G4 → Hid G5 → X) : {G : Prop × Prop × Prop × Prop × Prop // G.1 → G.2.1 → G.2.2.1 → G.2.2.2.1 → G.2.2.2.2 → X} := ⟨(G1, G2, G3, G4, G5), fun a b c d e => h ⟨a⟩ ⟨b⟩ ⟨c⟩ ⟨d⟩ ⟨e⟩⟩
noncomputable def Tryd.tpD (a a' : Option Addr) (c c' : Nat) (xs : List Mrk) (ss : List Int) (f t : Int) (L : List HP) (hc : xs.length ≤ c) (hm : c ≤ 9223372036854775807) (hr : Rd mrE L a xs) (hc' : ss.length ≤ c') (hm' : c' ≤ 9223372036854775807) (hr' : Rd soE L a' ss) (hG : Tryd.Gk L) :
    {G : Prop × Prop × Prop × Prop × Prop // G.1 → G.2.1 → G.2.2.1 → G.2.2.2.1 → G.2.2.2.2 → Con Tryd.prog 3 [.slice a xs.length c, .slice a' ss.length c', spV f t] L (Is (.bool true) L)} := by
  apply mk5
  intro k1 k2 k3 k4 k5
  have h60 : (mr60 xs).length ≤ 60 := by unfold mr60; rw [List.length_take]; omega
  have h20 : (so20 ss).length ≤ 20 := by unfold so20; rw [List.length_take]; omega
  have hr2 : Rd mrE L a (mr60 xs) := hr.take _
  have hr3 : Rd soE L a' (so20 ss) := hr'.take _
  simp only [mr60, so20] at *
  refine con_of Tryd.tysOk Tryd.func3 rfl rfl ?_
  conv => whnf
  repeat' (first
    | ((with_reducible refine Nc.go' (fun _ => ?_)); conv => whnf)
    | ((with_reducible refine Sub.pre ?_ rfl ?_ ?_ ?_); (focus (first | exact Or.inl rfl | exact Or.inr ⟨_, rfl⟩)); (focus (omega)); (focus (omega)); conv => whnf))
  rename_i b5 b7
  generalize List.take (min (xs.length : Int) 60).toNat xs = us at *
  generalize List.take (min (ss.length : Int) 20).toNat ss = ts at *
  conv => whnf
  refine Lp.by2 Tryd.tysOk [8, 7] (fun (k : Nat) (P : Option Addr × Nat × List Int) => [.int .i64 k, .slice P.1 P.2.2.length P.2.1]) (fun k P => own soE 27 P.1 P.2.1 P.2.2 :: ptc b5 25 [z64 f, z64 t] :: L) (fun k P => k ≤ us.length ∧ (P.2.2 = restS ts (us.take k) ∧ P.2.2.length ≤ P.2.1 ∧ Ad P.1 P.2.2.length)) (fun k P => us.length - k) (0) (((some ⟨b7, 0, none⟩, 0, []) : Option Addr × Nat × List Int)) (by kernel_rfl) (by (refine FEnt.ent ?_; (repeat (first | exact FEnt.rfl | (refine FEnt.own0 0 rfl ?_; (try simp only [List.eraseIdx_cons_zero, List.eraseIdx_cons_succ, List.eraseIdx_zero, List.tail_cons])))); done)) (⟨by omega, ⟨rfl, by simp, fun _ => rfl⟩⟩) ?_
  rintro k ⟨a2, c2, rs⟩ ⟨g1, ⟨p1, p2, p3⟩⟩
  conv => whnf
  repeat (intro _; conv => whnf)
  dsimp only at p1 p2 p3
  have hrl : rs.length ≤ k := by
    rw [p1]
    unfold restS
    rw [List.length_map]
    exact Nat.le_trans (List.length_filter_le _ _) (by rw [List.length_take]; omega)
  by_cases hk1 : k < us.length
  · have ham := fun L h => Tryd.trcAmong (us.getD k mrE.d).s a' c' ts L (by omega) h
    by_cases hi : (us.getD k mrE.d).s ∈ ts
    · have e1 := rest_not (ss := ts) hk1 hi
      rw [← p1] at e1
      have ham := fun L h => Con.dt hi (ham L h)
      conv => whnf
      repeat' (first
        | (first | ((with_reducible refine Br.nt ?_); conv => whnf) | ((with_reducible refine Br.dt ?_ ?_); (focus (first | assumption | omega)); conv => whnf))
        | ((with_reducible refine Ar.i64 ?_ ?_); (focus omega); conv => whnf)
        | ((with_reducible refine Ix.ad ?_ ?_ ?_); (focus (exact Rd.ad (by assumption))); (focus (omega)); conv => whnf)
        | ((with_reducible apply Ld.rdk); (focus ((repeat (first | assumption | apply Rd.cons)); done)); (focus rfl); (focus (omega)); (focus rfl); conv => whnf)
        | ((with_reducible refine Cl.is (ham _ (by ((repeat (first | assumption | apply Rd.cons)); done))) ?_); conv => whnf))
      all_goals exact ⟨k + 1, (a2, c2, rs), by kernel_rfl, by (try dsimp only); (exact Ent.rfl), ⟨by omega, ⟨e1.symm, p2, p3⟩⟩, by omega⟩
    · have e1 := rest_yes (ss := ts) hk1 hi
      rw [← p1] at e1
      have ham := fun L h => Con.df hi (ham L h)
      conv => whnf
      repeat' (first
        | (first | ((with_reducible refine Br.nf ?_); conv => whnf) | ((with_reducible refine Br.dt ?_ ?_); (focus (first | assumption | omega)); conv => whnf))
        | ((with_reducible refine Ar.i64 ?_ ?_); (focus omega); conv => whnf)
        | ((with_reducible refine Nc.go' (fun _ => ?_)); conv => whnf)
        | ((with_reducible refine Ix.ad ?_ ?_ ?_); (focus (exact Rd.ad (by assumption))); (focus (omega)); conv => whnf)
        | ((with_reducible apply Ld.rdk); (focus ((repeat (first | assumption | apply Rd.cons)); done)); (focus rfl); (focus (omega)); (focus rfl); conv => whnf)
        | ((with_reducible refine Cl.is (ham _ (by ((repeat (first | assumption | apply Rd.cons)); done))) ?_); conv => whnf)
        | ((with_reducible refine (?_ : Sm _ (Builtin.append_ _ _ _) _ _)); (((with_reducible apply (Sm.appAt (E := soE) (et := 27) Tryd.tysOk 1)); (focus rfl)); (rotate_left; (focus (exact Rd.ptc 0 rfl [_] rfl)); rotate_right; (focus rfl)); (focus rfl); (focus rfl); (focus rfl); (focus rfl); (focus rfl); (focus rfl); (focus ((simp only [List.length_append, List.length_cons, List.length_nil]); omega)); (intro _ _ _ _); conv => whnf)))
      rename_i a5 c5 hc5 had5
      exact ⟨k + 1, (a5, c5, _), by kernel_rfl, by (try dsimp only); (refine FEnt.ent ?_; (repeat (first | exact FEnt.rfl | (refine FEnt.at 0 rfl ?_; (try simp only [List.eraseIdx_cons_zero, List.eraseIdx_cons_succ, List.eraseIdx_zero, List.tail_cons])) | (refine FEnt.at 1 rfl ?_; (try simp only [List.eraseIdx_cons_zero, List.eraseIdx_cons_succ, List.eraseIdx_zero, List.tail_cons])) | refine FEnt.drop ?_)); done), ⟨by omega, ⟨e1.symm, hc5, had5⟩⟩, by omega⟩
  · have e : k = us.length := by omega
    subst e
    rw [List.take_length] at p1
    subst p1
    have ho1 := fun L h h' => Tryd.trcOf a a' c c' us ts L (by omega) (by omega) h h'
    have ho2 := fun L h h' => Tryd.trcOf a a2 c c2 us (restS ts us) L (by omega) (by omega) h h'
    rw [rest_filter] at ho2
    change ∀ L, Rd mrE L a us → Rd soE L a' ts → Con Tryd.prog 8 [.slice a us.length c, .slice a' ts.length c'] L (New mrE 29 (us.filter (pY ts)) L) at ho1
    have la : (us.filter (pY ts)).length ≤ 60 := Nat.le_trans (List.length_filter_le _ _) h60
    have lb : (us.filter (pN ts)).length ≤ 60 := Nat.le_trans (List.length_filter_le _ _) h60
    conv => whnf
    repeat' (first
      | ((with_reducible refine Br.df ?_ ?_); (focus (first | assumption | omega)); conv => whnf)
      | ((with_reducible refine Nc.go' (fun _ => ?_)); conv => whnf)
      | ((with_reducible refine (?_ : Cl _ 8 _ _ _ _)); (first | refine Cl.new (ho1 _ (by ((repeat (first | assumption | apply Rd.cons)); done)) (by ((repeat (first | assumption | apply Rd.cons)); done))) (fun _ _ _ _ => ?_) | refine Cl.new (ho2 _ (by ((repeat (first | assumption | apply Rd.cons)); done)) (by ((repeat ((refine Rd.own 1 rfl ?_); (assumption))); done))) (fun _ _ _ _ => ?_)); conv => whnf))
    rename_i aA cA hcA hdA aB cB hcB hdB b11 b12
    have fA := fun (n : Nat) (hn : n < us.length) h => filter_at (p := pY ts) (d := mrE.d) hn h
    have fB := fun (n : Nat) (hn : n < us.length) h => filter_at (p := pN ts) (d := mrE.d) hn h
    generalize hA : us.filter (pY ts) = A at *
    generalize hB : us.filter (pN ts) = B at *
    conv => whnf
    refine Lp.by4 Tryd.tysOk [16, 13, 14, 15, 11, 12] (fun (n : Nat) (i j : Nat) (P : Bool × (Option Addr × Nat × List Mrk) × (Option Addr × Nat × List Mrk)) => [.int .i64 n, .int .i64 i, .int .i64 j, .bool P.1, .slice P.2.1.1 P.2.1.2.2.length P.2.1.2.1, .slice P.2.2.1 P.2.2.2.2.length P.2.2.2.1]) (fun n i j P => own mrE 29 P.2.1.1 P.2.1.2.1 P.2.1.2.2 :: own mrE 29 P.2.2.1 P.2.2.2.1 P.2.2.2.2 :: own mrE 29 aA cA A :: own mrE 29 aB cB B :: ptc b5 25 [z64 f, z64 t] :: L) (fun n i j P => n ≤ us.length ∧ (i = ((us.take n).filter (pY ts)).length ∧ j = ((us.take n).filter (pN ts)).length ∧ (P.1 = true ↔ sortT (us.take n))) ∧ (P.2.1.2.2 = (us.take n).filter (pH f t) ∧ P.2.1.2.2.length ≤ P.2.1.2.1 ∧ Ad P.2.1.1 P.2.1.2.2.length) ∧ (P.2.2.2.2 = (us.take n).filter pO ∧ P.2.2.2.2.length ≤ P.2.2.2.1 ∧ Ad P.2.2.1 P.2.2.2.2.length)) (fun n i j P => us.length - n) (0) (0) (0) (((true, (some ⟨b11, 0, none⟩, 0, []), (some ⟨b12, 0, none⟩, 0, [])) : Bool × (Option Addr × Nat × List Mrk) × (Option Addr × Nat × List Mrk))) (by kernel_rfl) (by (refine FEnt.ent ?_; (repeat (first | exact FEnt.rfl | (refine FEnt.at 0 rfl ?_; (try simp only [List.eraseIdx_cons_zero, List.eraseIdx_cons_succ, List.eraseIdx_zero, List.tail_cons])) | (refine FEnt.at 1 rfl ?_; (try simp only [List.eraseIdx_cons_zero, List.eraseIdx_cons_succ, List.eraseIdx_zero, List.tail_cons])) | (refine FEnt.own0 0 rfl ?_; (try simp only [List.eraseIdx_cons_zero, List.eraseIdx_cons_succ, List.eraseIdx_zero, List.tail_cons])) | (refine FEnt.own0 1 rfl ?_; (try simp only [List.eraseIdx_cons_zero, List.eraseIdx_cons_succ, List.eraseIdx_zero, List.tail_cons])) | refine FEnt.drop ?_)); done)) (⟨by omega, ⟨rfl, rfl, ⟨fun _ i hi => by simp at hi, fun _ => rfl⟩⟩, ⟨rfl, by simp, fun _ => rfl⟩, ⟨rfl, by simp, fun _ => rfl⟩⟩) ?_
    rintro n i j ⟨bo, ⟨a3, c3, ys⟩, ⟨a4, c4, zs⟩⟩ ⟨u1, ⟨v1, v2, v3⟩, ⟨y1, y2, y3⟩, ⟨z1, z2, z3⟩⟩
    conv => whnf
    repeat (intro _; conv => whnf)
    dsimp only at y1 y2 y3 z1 z2 z3 v3
    have hyl : ys.length ≤ n := by rw [y1]; exact Nat.le_trans (List.length_filter_le _ _) (by rw [List.length_take]; omega)
    have hzl : zs.length ≤ n := by rw [z1]; exact Nat.le_trans (List.length_filter_le _ _) (by rw [List.length_take]; omega)
    by_cases hk : n < us.length
    · have ham := fun L h => Tryd.trcAmong (us.getD n mrE.d).s a' c' ts L (by omega) h
      have hho := fun L => Tryd.refHolds f t (us.getD n mrE.d).t L
      have s1 := sb_f hk v3
      have s2 := sb_0 hk v3
      have s3 := sb_n hk v3
      clear ho1 ho2 h20
      dsimp only
      by_cases hp : (us.getD n mrE.d).s ∈ ts
      · obtain ⟨f1, f2⟩ := fA n hk (decide_eq_true hp)
        rw [← v1] at f1 f2
        have hq : mrQ (A.getD i mrE.d) (us.getD n mrE.d) := mr_eq.2 f2
        have w1 : i + 1 = ((us.take (n + 1)).filter (pY ts)).length := by rw [filter_yes (p := pY ts) (d := mrE.d) hk (decide_eq_true hp), List.length_append, ← v1]; rfl
        have w2 : j = ((us.take (n + 1)).filter (pN ts)).length := by rw [filter_not (p := pN ts) (d := mrE.d) hk (by show (!decide _) = false; rw [decide_eq_true hp]; rfl), ← v2]
        replace ham := fun L h => Con.dt hp (ham L h)
        clear f2 hp v1 v2 v3 fA fB
        by_cases hh : 0 ≤ f ∧ f ≤ (us.getD n mrE.d).t ∧ (us.getD n mrE.d).t < t
        · have hy := filter_yes (p := pH f t) (d := mrE.d) hk (decide_eq_true hh)
          replace hho := fun L => Con.dt hh (hho L)
          rw [← y1] at hy
          revert us ts b5 b7 a2 c2 aA cA aB cB A B b11 b12 n i j bo a3 c3 ys a4 c4 zs
          repeat (rename_i zz; revert zz)
          exact k1.go
        · have hy := filter_not (p := pH f t) (d := mrE.d) hk (decide_eq_false hh)
          replace hho := fun L => Con.df hh (hho L)
          rw [← y1] at hy
          revert us ts b5 b7 a2 c2 aA cA aB cB A B b11 b12 n i j bo a3 c3 ys a4 c4 zs
          repeat (rename_i zz; revert zz)
          exact k2.go
      · have hpn : pN ts (us.getD n mrE.d) = true := by show (!decide _) = true; rw [decide_eq_false hp]; rfl
        obtain ⟨f1, f2⟩ := fB n hk hpn
        rw [← v2] at f1 f2
        have hq : mrQ (B.getD j mrE.d) (us.getD n mrE.d) := mr_eq.2 f2
        have w1 : i = ((us.take (n + 1)).filter (pY ts)).length := by rw [filter_not (p := pY ts) (d := mrE.d) hk (decide_eq_false hp), ← v1]
        have w2 : j + 1 = ((us.take (n + 1)).filter (pN ts)).length := by rw [filter_yes (p := pN ts) (d := mrE.d) hk hpn, List.length_append, ← v2]; rfl
        replace ham := fun L h => Con.df hp (ham L h)
        clear hpn
        clear f2 hp v1 v2 v3 fA fB
        by_cases hh : 0 ≤ f ∧ f ≤ (us.getD n mrE.d).t ∧ (us.getD n mrE.d).t < t
        · have hy := filter_yes (p := pH f t) (d := mrE.d) hk (decide_eq_true hh)
          replace hho := fun L => Con.dt hh (hho L)
          rw [← y1] at hy
          revert us ts b5 b7 a2 c2 aA cA aB cB A B b11 b12 n i j bo a3 c3 ys a4 c4 zs
          repeat (rename_i zz; revert zz)
          exact k3.go
        · have hy := filter_not (p := pH f t) (d := mrE.d) hk (decide_eq_false hh)
          replace hho := fun L => Con.df hh (hho L)
          rw [← y1] at hy
          revert us ts b5 b7 a2 c2 aA cA aB cB A B b11 b12 n i j bo a3 c3 ys a4 c4 zs
          repeat (rename_i zz; revert zz)
          exact k4.go
    · revert us ts b5 b7 a2 c2 aA cA aB cB A B b11 b12 n i j bo a3 c3 ys a4 c4 zs
      repeat (rename_i zz; revert zz)
      exact k5.go
theorem Tryd.tpL1 (a a' : Option Addr) (c c' : Nat) (xs : List Mrk) (ss : List Int) (f t : Int) (L : List HP) (hc : xs.length ≤ c) (hm : c ≤ 9223372036854775807) (hr : Rd mrE L a xs) (hc' : ss.length ≤ c') (hm' : c' ≤ 9223372036854775807) (hr' : Rd soE L a' ss) (hG : Tryd.Gk L) : (Tryd.tpD a a' c c' xs ss f t L hc hm hr hc' hm' hr' hG).1.1 := by
  conv => whnf
  set_option tactic.hygienic false in intros
  by_cases hO : 7 ≤ (us.getD n mrE.d).s ∧ (us.getD n mrE.d).s ≤ 9
  · have hz := filter_yes (p := pO) (d := mrE.d) hk (decide_eq_true hO)
    rw [← z1] at hz
    conv => whnf
    repeat' (first
      | (first | ((with_reducible refine Br.tt ?_); conv => whnf) | ((with_reducible refine Br.ff ?_); conv => whnf) | ((with_reducible refine Br.dt ?_ ?_); (focus (first | assumption | omega)); conv => whnf))
      | ((with_reducible refine Ar.i64 ?_ ?_); (focus omega); conv => whnf)
      | ((with_reducible refine Nd.mk ?_ ?_); (focus (first | omega | rfl | assumption | (simp; done))); conv => whnf)
      | ((with_reducible refine Nc.go' (fun _ => ?_)); conv => whnf)
      | ((with_reducible refine Ix.ad ?_ ?_ ?_); (focus (first | assumption | exact Rd.ad (by assumption))); (focus (omega)); conv => whnf)
      | ((first | (with_reducible apply Ld.rdk) | (with_reducible apply Ld.rdk0) | apply Ld.rd0); (focus ((repeat (first | assumption | apply Rd.cons)); done)); (focus rfl); (focus (omega)); (focus rfl); conv => whnf)
      | (first | ((with_reducible apply LdN.rdk); (focus ((repeat (first | assumption | ((refine Rd.own 2 rfl ?_); (assumption)) | apply Rd.cons)); done)); (focus rfl); (focus rfl); (focus (omega)); conv => whnf) | (refine LdN.at 4 rfl (by first | exact Nat.le_of_ble_eq_true rfl | (simp; done)) ?_; conv => whnf))
      | ((with_reducible refine Dr.by (id := 16) Tryd.tysOk rfl [(0, 0), (1, 0), (2, 0), (3, 0), (4, 0), (5, 0), (6, 0), (7, 0), (8, 0), (10, 0), (9, 1), (11, 1), (12, 0), (13, 0), (14, 0), (15, 0), (16, 0), (18, 0), (19, 0), (20, 0), (17, 1), (21, 1), (22, 0), (23, 0)] ?_ ?_); (focus kernel_rfl); conv => whnf)
      | ((with_reducible refine Dr.by (id := 21) Tryd.tysOk rfl [(1, 0), (2, 0), (3, 0), (4, 0), (0, 1), (5, 1), (6, 1)] ?_ ?_); (focus kernel_rfl); conv => whnf)
      | ((with_reducible refine Dr.by (id := 25) Tryd.tysOk rfl [(0, 0), (1, 0), (2, 0), (3, 0), (4, 0), (5, 0), (6, 0), (7, 0), (8, 0), (9, 0), (11, 0), (12, 0), (13, 0), (14, 0), (10, 1), (15, 1), (16, 0), (17, 0), (18, 0), (19, 0)] ?_ ?_); (focus kernel_rfl); conv => whnf)
      | (first | ((with_reducible refine CD.is (fun M => ham _ (by ((repeat (first | assumption | apply Rd.cons | apply Rd.app)); done))) ?_); conv => whnf) | ((with_reducible refine CD.is (fun M => hho _) ?_); conv => whnf))
      | ((with_reducible refine (?_ : Sm _ (Builtin.append_ _ _ _) _ _)); ((first | ((with_reducible apply (Sm.appAt (E := mrE) (et := 29) Tryd.tysOk 1)); (focus rfl)) | ((with_reducible apply (Sm.appAt (E := mrE) (et := 29) Tryd.tysOk 3)); (focus rfl))); (rotate_left; (focus (exact Rd.ptc 0 rfl [_] rfl)); rotate_right; (focus rfl)); (focus rfl); (focus rfl); (focus rfl); (focus rfl); (focus rfl); (focus rfl); (focus ((simp only [List.length_append, List.length_cons, List.length_nil]); omega)); (intro _ _ _ _); conv => whnf))
      | (first | ((with_reducible refine Br.ds (fun _ => ?_) (fun _ => ?_) ) <;> (conv => whnf)) | ((with_reducible refine Br.bs (fun _ => ?_) (fun _ => ?_) ) <;> (conv => whnf))))
    all_goals first | (rename_i e1 a5 c5 hc5 hd5 e2 a6 c6 hc6 hd6 q0; exact ⟨n + 1, i + 1, j, (false, (a5, c5, ys ++ [us.getD n mrE.d]), (a6, c6, zs ++ [us.getD n mrE.d])), by kernel_rfl, by (try dsimp only); (refine FEnt.ent ?_; (repeat (first | exact FEnt.rfl | (refine FEnt.at 0 rfl ?_; (try simp only [List.eraseIdx_cons_zero, List.eraseIdx_cons_succ, List.eraseIdx_zero, List.tail_cons])) | (refine FEnt.at 2 rfl ?_; (try simp only [List.eraseIdx_cons_zero, List.eraseIdx_cons_succ, List.eraseIdx_zero, List.tail_cons])) | refine FEnt.drop ?_)); done), ⟨by omega, ⟨w1, w2, s1 (by assumption)⟩, ⟨hy.symm, hc5, hd5⟩, ⟨hz.symm, hc6, hd6⟩⟩, by omega⟩) | (rename_i e1 a5 c5 hc5 hd5 e2 a6 c6 hc6 hd6 q0 q1; exact ⟨n + 1, i + 1, j, (true, (a5, c5, ys ++ [us.getD n mrE.d]), (a6, c6, zs ++ [us.getD n mrE.d])), by kernel_rfl, by (try dsimp only); (refine FEnt.ent ?_; (repeat (first | exact FEnt.rfl | (refine FEnt.at 0 rfl ?_; (try simp only [List.eraseIdx_cons_zero, List.eraseIdx_cons_succ, List.eraseIdx_zero, List.tail_cons])) | (refine FEnt.at 2 rfl ?_; (try simp only [List.eraseIdx_cons_zero, List.eraseIdx_cons_succ, List.eraseIdx_zero, List.tail_cons])) | refine FEnt.drop ?_)); done), ⟨by omega, ⟨w1, w2, s2 (by assumption) (by assumption)⟩, ⟨hy.symm, hc5, hd5⟩, ⟨hz.symm, hc6, hd6⟩⟩, by omega⟩) | (rename_i e1 a5 c5 hc5 hd5 e2 a6 c6 hc6 hd6 q0 q1; exact ⟨n + 1, i + 1, j, (decide ((us.getD ((n : Int) - 1).toNat mrE.d).t ≤ (us.getD n mrE.d).t), (a5, c5, ys ++ [us.getD n mrE.d]), (a6, c6, zs ++ [us.getD n mrE.d])), by kernel_rfl, by (try dsimp only); (refine FEnt.ent ?_; (repeat (first | exact FEnt.rfl | (refine FEnt.at 0 rfl ?_; (try simp only [List.eraseIdx_cons_zero, List.eraseIdx_cons_succ, List.eraseIdx_zero, List.tail_cons])) | (refine FEnt.at 2 rfl ?_; (try simp only [List.eraseIdx_cons_zero, List.eraseIdx_cons_succ, List.eraseIdx_zero, List.tail_cons])) | refine FEnt.drop ?_)); done), ⟨by omega, ⟨w1, w2, s3 (by assumption) (by assumption)⟩, ⟨hy.symm, hc5, hd5⟩, ⟨hz.symm, hc6, hd6⟩⟩, by omega⟩) | (exfalso; omega)
  · have hz := filter_not (p := pO) (d := mrE.d) hk (decide_eq_false hO)
    rw [← z1] at hz
    conv => whnf
    repeat' (first
      | (first | ((with_reducible refine Br.tt ?_); conv => whnf) | ((with_reducible refine Br.ff ?_); conv => whnf) | ((with_reducible refine Br.dt ?_ ?_); (focus (first | assumption | omega)); conv => whnf) | ((with_reducible refine Br.df ?_ ?_); (focus (first | assumption | omega)); conv => whnf))
      | ((with_reducible refine Ar.i64 ?_ ?_); (focus omega); conv => whnf)
      | ((with_reducible refine Nd.mk ?_ ?_); (focus (first | omega | rfl | assumption | (simp; done))); conv => whnf)
      | ((with_reducible refine Nc.go' (fun _ => ?_)); conv => whnf)
      | ((with_reducible refine Ix.ad ?_ ?_ ?_); (focus (first | assumption | exact Rd.ad (by assumption))); (focus (omega)); conv => whnf)
      | ((first | (with_reducible apply Ld.rdk) | (with_reducible apply Ld.rdk0) | apply Ld.rd0); (focus ((repeat (first | assumption | apply Rd.cons)); done)); (focus rfl); (focus (omega)); (focus rfl); conv => whnf)
      | (first | ((with_reducible apply LdN.rdk); (focus ((repeat (first | assumption | ((refine Rd.own 2 rfl ?_); (assumption)) | apply Rd.cons)); done)); (focus rfl); (focus rfl); (focus (omega)); conv => whnf) | (refine LdN.at 4 rfl (by first | exact Nat.le_of_ble_eq_true rfl | (simp; done)) ?_; conv => whnf))
      | ((with_reducible refine Dr.by (id := 16) Tryd.tysOk rfl [(0, 0), (1, 0), (2, 0), (3, 0), (4, 0), (5, 0), (6, 0), (7, 0), (8, 0), (10, 0), (9, 1), (11, 1), (12, 0), (13, 0), (14, 0), (15, 0), (16, 0), (18, 0), (19, 0), (20, 0), (17, 1), (21, 1), (22, 0), (23, 0)] ?_ ?_); (focus kernel_rfl); conv => whnf)
      | ((with_reducible refine Dr.by (id := 21) Tryd.tysOk rfl [(1, 0), (2, 0), (3, 0), (4, 0), (0, 1), (5, 1), (6, 1)] ?_ ?_); (focus kernel_rfl); conv => whnf)
      | ((with_reducible refine Dr.by (id := 25) Tryd.tysOk rfl [(0, 0), (1, 0), (2, 0), (3, 0), (4, 0), (5, 0), (6, 0), (7, 0), (8, 0), (9, 0), (11, 0), (12, 0), (13, 0), (14, 0), (10, 1), (15, 1), (16, 0), (17, 0), (18, 0), (19, 0)] ?_ ?_); (focus kernel_rfl); conv => whnf)
      | (first | ((with_reducible refine CD.is (fun M => ham _ (by ((repeat (first | assumption | apply Rd.cons | apply Rd.app)); done))) ?_); conv => whnf) | ((with_reducible refine CD.is (fun M => hho _) ?_); conv => whnf))
      | ((with_reducible refine (?_ : Sm _ (Builtin.append_ _ _ _) _ _)); (((with_reducible apply (Sm.appAt (E := mrE) (et := 29) Tryd.tysOk 1)); (focus rfl)); (rotate_left; (focus (exact Rd.ptc 0 rfl [_] rfl)); rotate_right; (focus rfl)); (focus rfl); (focus rfl); (focus rfl); (focus rfl); (focus rfl); (focus rfl); (focus ((simp only [List.length_append, List.length_cons, List.length_nil]); omega)); (intro _ _ _ _); conv => whnf))
      | (first | ((with_reducible refine Br.ds (fun _ => ?_) (fun _ => ?_) ) <;> (conv => whnf)) | ((with_reducible refine Br.bs (fun _ => ?_) (fun _ => ?_) ) <;> (conv => whnf))))
    all_goals first | (rename_i e1 a5 c5 hc5 hd5 q0 q1; exact ⟨n + 1, i + 1, j, (false, (a5, c5, ys ++ [us.getD n mrE.d]), (a4, c4, zs)), by kernel_rfl, by (try dsimp only); (refine FEnt.ent ?_; (repeat (first | exact FEnt.rfl | (refine FEnt.at 0 rfl ?_; (try simp only [List.eraseIdx_cons_zero, List.eraseIdx_cons_succ, List.eraseIdx_zero, List.tail_cons])) | (refine FEnt.at 1 rfl ?_; (try simp only [List.eraseIdx_cons_zero, List.eraseIdx_cons_succ, List.eraseIdx_zero, List.tail_cons])) | refine FEnt.drop ?_)); done), ⟨by omega, ⟨w1, w2, s1 (by assumption)⟩, ⟨hy.symm, hc5, hd5⟩, ⟨hz.symm, z2, z3⟩⟩, by omega⟩) | (rename_i e1 a5 c5 hc5 hd5 q0 q1 q2; exact ⟨n + 1, i + 1, j, (false, (a5, c5, ys ++ [us.getD n mrE.d]), (a4, c4, zs)), by kernel_rfl, by (try dsimp only); (refine FEnt.ent ?_; (repeat (first | exact FEnt.rfl | (refine FEnt.at 0 rfl ?_; (try simp only [List.eraseIdx_cons_zero, List.eraseIdx_cons_succ, List.eraseIdx_zero, List.tail_cons])) | (refine FEnt.at 1 rfl ?_; (try simp only [List.eraseIdx_cons_zero, List.eraseIdx_cons_succ, List.eraseIdx_zero, List.tail_cons])) | refine FEnt.drop ?_)); done), ⟨by omega, ⟨w1, w2, s1 (by assumption)⟩, ⟨hy.symm, hc5, hd5⟩, ⟨hz.symm, z2, z3⟩⟩, by omega⟩) | (rename_i e1 a5 c5 hc5 hd5 q0 q1 q2; exact ⟨n + 1, i + 1, j, (true, (a5, c5, ys ++ [us.getD n mrE.d]), (a4, c4, zs)), by kernel_rfl, by (try dsimp only); (refine FEnt.ent ?_; (repeat (first | exact FEnt.rfl | (refine FEnt.at 0 rfl ?_; (try simp only [List.eraseIdx_cons_zero, List.eraseIdx_cons_succ, List.eraseIdx_zero, List.tail_cons])) | (refine FEnt.at 1 rfl ?_; (try simp only [List.eraseIdx_cons_zero, List.eraseIdx_cons_succ, List.eraseIdx_zero, List.tail_cons])) | refine FEnt.drop ?_)); done), ⟨by omega, ⟨w1, w2, s2 (by assumption) (by assumption)⟩, ⟨hy.symm, hc5, hd5⟩, ⟨hz.symm, z2, z3⟩⟩, by omega⟩) | (rename_i e1 a5 c5 hc5 hd5 q0 q1 q2 q3; exact ⟨n + 1, i + 1, j, (true, (a5, c5, ys ++ [us.getD n mrE.d]), (a4, c4, zs)), by kernel_rfl, by (try dsimp only); fail, ⟨by omega, ⟨w1, w2, s2 (by assumption) (by assumption)⟩, ⟨hy.symm, hc5, hd5⟩, ⟨hz.symm, z2, z3⟩⟩, by omega⟩) | (rename_i e1 a5 c5 hc5 hd5 q0 q1 q2; exact ⟨n + 1, i + 1, j, (decide ((us.getD ((n : Int) - 1).toNat mrE.d).t ≤ (us.getD n mrE.d).t), (a5, c5, ys ++ [us.getD n mrE.d]), (a4, c4, zs)), by kernel_rfl, by (try dsimp only); (refine FEnt.ent ?_; (repeat (first | exact FEnt.rfl | (refine FEnt.at 0 rfl ?_; (try simp only [List.eraseIdx_cons_zero, List.eraseIdx_cons_succ, List.eraseIdx_zero, List.tail_cons])) | (refine FEnt.at 1 rfl ?_; (try simp only [List.eraseIdx_cons_zero, List.eraseIdx_cons_succ, List.eraseIdx_zero, List.tail_cons])) | refine FEnt.drop ?_)); done), ⟨by omega, ⟨w1, w2, s3 (by assumption) (by assumption)⟩, ⟨hy.symm, hc5, hd5⟩, ⟨hz.symm, z2, z3⟩⟩, by omega⟩) | (rename_i e1 a5 c5 hc5 hd5 q0 q1 q2 q3; exact ⟨n + 1, i + 1, j, (decide ((us.getD ((n : Int) - 1).toNat mrE.d).t ≤ (us.getD n mrE.d).t), (a5, c5, ys ++ [us.getD n mrE.d]), (a4, c4, zs)), by kernel_rfl, by (try dsimp only); fail, ⟨by omega, ⟨w1, w2, s3 (by assumption) (by assumption)⟩, ⟨hy.symm, hc5, hd5⟩, ⟨hz.symm, z2, z3⟩⟩, by omega⟩) | (exfalso; omega)
theorem Tryd.tpL2 (a a' : Option Addr) (c c' : Nat) (xs : List Mrk) (ss : List Int) (f t : Int) (L : List HP) (hc : xs.length ≤ c) (hm : c ≤ 9223372036854775807) (hr : Rd mrE L a xs) (hc' : ss.length ≤ c') (hm' : c' ≤ 9223372036854775807) (hr' : Rd soE L a' ss) (hG : Tryd.Gk L) : (Tryd.tpD a a' c c' xs ss f t L hc hm hr hc' hm' hr' hG).1.2.1 := by
  conv => whnf
  set_option tactic.hygienic false in intros
  by_cases hO : 7 ≤ (us.getD n mrE.d).s ∧ (us.getD n mrE.d).s ≤ 9
  · have hz := filter_yes (p := pO) (d := mrE.d) hk (decide_eq_true hO)
    rw [← z1] at hz
    conv => whnf
    repeat' (first
      | (first | ((with_reducible refine Br.tt ?_); conv => whnf) | ((with_reducible refine Br.ff ?_); conv => whnf) | ((with_reducible refine Br.dt ?_ ?_); (focus (first | assumption | omega)); conv => whnf))
      | ((with_reducible refine Ar.i64 ?_ ?_); (focus omega); conv => whnf)
      | ((with_reducible refine Nd.mk ?_ ?_); (focus (first | omega | rfl | assumption | (simp; done))); conv => whnf)
      | ((with_reducible refine Nc.go' (fun _ => ?_)); conv => whnf)
      | ((with_reducible refine Ix.ad ?_ ?_ ?_); (focus (first | assumption | exact Rd.ad (by assumption))); (focus (omega)); conv => whnf)
      | ((first | (with_reducible apply Ld.rdk) | (with_reducible apply Ld.rdk0) | apply Ld.rd0); (focus ((repeat (first | assumption | apply Rd.cons)); done)); (focus rfl); (focus (omega)); (focus rfl); conv => whnf)
      | (first | ((with_reducible apply LdN.rdk); (focus ((repeat (first | assumption | ((refine Rd.own 2 rfl ?_); (assumption)) | apply Rd.cons)); done)); (focus rfl); (focus rfl); (focus (omega)); conv => whnf) | (refine LdN.at 4 rfl (by first | exact Nat.le_of_ble_eq_true rfl | (simp; done)) ?_; conv => whnf))
      | ((with_reducible refine Dr.by (id := 16) Tryd.tysOk rfl [(0, 0), (1, 0), (2, 0), (3, 0), (4, 0), (5, 0), (6, 0), (7, 0), (8, 0), (10, 0), (9, 1), (11, 1), (12, 0), (13, 0), (14, 0), (15, 0), (16, 0), (18, 0), (19, 0), (20, 0), (17, 1), (21, 1), (22, 0), (23, 0)] ?_ ?_); (focus kernel_rfl); conv => whnf)
      | ((with_reducible refine Dr.by (id := 21) Tryd.tysOk rfl [(1, 0), (2, 0), (3, 0), (4, 0), (0, 1), (5, 1), (6, 1)] ?_ ?_); (focus kernel_rfl); conv => whnf)
      | ((with_reducible refine Dr.by (id := 25) Tryd.tysOk rfl [(0, 0), (1, 0), (2, 0), (3, 0), (4, 0), (5, 0), (6, 0), (7, 0), (8, 0), (9, 0), (11, 0), (12, 0), (13, 0), (14, 0), (10, 1), (15, 1), (16, 0), (17, 0), (18, 0), (19, 0)] ?_ ?_); (focus kernel_rfl); conv => whnf)
      | (first | ((with_reducible refine CD.is (fun M => ham _ (by ((repeat (first | assumption | apply Rd.cons | apply Rd.app)); done))) ?_); conv => whnf) | ((with_reducible refine CD.is (fun M => hho _) ?_); conv => whnf))
      | ((with_reducible refine (?_ : Sm _ (Builtin.append_ _ _ _) _ _)); (((with_reducible apply (Sm.appAt (E := mrE) (et := 29) Tryd.tysOk 2)); (focus rfl)); (rotate_left; (focus (exact Rd.ptc 0 rfl [_] rfl)); rotate_right; (focus rfl)); (focus rfl); (focus rfl); (focus rfl); (focus rfl); (focus rfl); (focus rfl); (focus ((simp only [List.length_append, List.length_cons, List.length_nil]); omega)); (intro _ _ _ _); conv => whnf))
      | (first | ((with_reducible refine Br.ds (fun _ => ?_) (fun _ => ?_) ) <;> (conv => whnf)) | ((with_reducible refine Br.bs (fun _ => ?_) (fun _ => ?_) ) <;> (conv => whnf))))
    all_goals first | (rename_i e2 a6 c6 hc6 hd6 q0; exact ⟨n + 1, i + 1, j, (false, (a3, c3, ys), (a6, c6, zs ++ [us.getD n mrE.d])), by kernel_rfl, by (try dsimp only); (refine FEnt.ent ?_; (repeat (first | exact FEnt.rfl | (refine FEnt.at 0 rfl ?_; (try simp only [List.eraseIdx_cons_zero, List.eraseIdx_cons_succ, List.eraseIdx_zero, List.tail_cons])) | (refine FEnt.at 1 rfl ?_; (try simp only [List.eraseIdx_cons_zero, List.eraseIdx_cons_succ, List.eraseIdx_zero, List.tail_cons])) | (refine FEnt.at 2 rfl ?_; (try simp only [List.eraseIdx_cons_zero, List.eraseIdx_cons_succ, List.eraseIdx_zero, List.tail_cons])) | refine FEnt.drop ?_)); done), ⟨by omega, ⟨w1, w2, s1 (by assumption)⟩, ⟨hy.symm, y2, y3⟩, ⟨hz.symm, hc6, hd6⟩⟩, by omega⟩) | (rename_i e2 a6 c6 hc6 hd6 q0 q1; exact ⟨n + 1, i + 1, j, (true, (a3, c3, ys), (a6, c6, zs ++ [us.getD n mrE.d])), by kernel_rfl, by (try dsimp only); (refine FEnt.ent ?_; (repeat (first | exact FEnt.rfl | (refine FEnt.at 0 rfl ?_; (try simp only [List.eraseIdx_cons_zero, List.eraseIdx_cons_succ, List.eraseIdx_zero, List.tail_cons])) | (refine FEnt.at 1 rfl ?_; (try simp only [List.eraseIdx_cons_zero, List.eraseIdx_cons_succ, List.eraseIdx_zero, List.tail_cons])) | (refine FEnt.at 2 rfl ?_; (try simp only [List.eraseIdx_cons_zero, List.eraseIdx_cons_succ, List.eraseIdx_zero, List.tail_cons])) | refine FEnt.drop ?_)); done), ⟨by omega, ⟨w1, w2, s2 (by assumption) (by assumption)⟩, ⟨hy.symm, y2, y3⟩, ⟨hz.symm, hc6, hd6⟩⟩, by omega⟩) | (rename_i e2 a6 c6 hc6 hd6 q0 q1; exact ⟨n + 1, i + 1, j, (decide ((us.getD ((n : Int) - 1).toNat mrE.d).t ≤ (us.getD n mrE.d).t), (a3, c3, ys), (a6, c6, zs ++ [us.getD n mrE.d])), by kernel_rfl, by (try dsimp only); (refine FEnt.ent ?_; (repeat (first | exact FEnt.rfl | (refine FEnt.at 0 rfl ?_; (try simp only [List.eraseIdx_cons_zero, List.eraseIdx_cons_succ, List.eraseIdx_zero, List.tail_cons])) | (refine FEnt.at 1 rfl ?_; (try simp only [List.eraseIdx_cons_zero, List.eraseIdx_cons_succ, List.eraseIdx_zero, List.tail_cons])) | (refine FEnt.at 2 rfl ?_; (try simp only [List.eraseIdx_cons_zero, List.eraseIdx_cons_succ, List.eraseIdx_zero, List.tail_cons])) | refine FEnt.drop ?_)); done), ⟨by omega, ⟨w1, w2, s3 (by assumption) (by assumption)⟩, ⟨hy.symm, y2, y3⟩, ⟨hz.symm, hc6, hd6⟩⟩, by omega⟩) | (exfalso; omega)
  · have hz := filter_not (p := pO) (d := mrE.d) hk (decide_eq_false hO)
    rw [← z1] at hz
    conv => whnf
    repeat' (first
      | (first | ((with_reducible refine Br.tt ?_); conv => whnf) | ((with_reducible refine Br.ff ?_); conv => whnf) | ((with_reducible refine Br.dt ?_ ?_); (focus (first | assumption | omega)); conv => whnf) | ((with_reducible refine Br.df ?_ ?_); (focus (first | assumption | omega)); conv => whnf))
      | ((with_reducible refine Ar.i64 ?_ ?_); (focus omega); conv => whnf)
      | ((with_reducible refine Nd.mk ?_ ?_); (focus (first | omega | rfl | assumption | (simp; done))); conv => whnf)
      | ((with_reducible refine Ix.ad ?_ ?_ ?_); (focus (first | assumption | exact Rd.ad (by assumption))); (focus (omega)); conv => whnf)
      | ((first | (with_reducible apply Ld.rdk) | (with_reducible apply Ld.rdk0) | apply Ld.rd0); (focus ((repeat (first | assumption | apply Rd.cons)); done)); (focus rfl); (focus (omega)); (focus rfl); conv => whnf)
      | (first | ((with_reducible apply LdN.rdk); (focus ((repeat (first | assumption | ((refine Rd.own 2 rfl ?_); (assumption)) | apply Rd.cons)); done)); (focus rfl); (focus rfl); (focus (omega)); conv => whnf) | (refine LdN.at 4 rfl (by first | exact Nat.le_of_ble_eq_true rfl | (simp; done)) ?_; conv => whnf))
      | ((with_reducible refine Dr.by (id := 16) Tryd.tysOk rfl [(0, 0), (1, 0), (2, 0), (3, 0), (4, 0), (5, 0), (6, 0), (7, 0), (8, 0), (10, 0), (9, 1), (11, 1), (12, 0), (13, 0), (14, 0), (15, 0), (16, 0), (18, 0), (19, 0), (20, 0), (17, 1), (21, 1), (22, 0), (23, 0)] ?_ ?_); (focus kernel_rfl); conv => whnf)
      | ((with_reducible refine Dr.by (id := 21) Tryd.tysOk rfl [(1, 0), (2, 0), (3, 0), (4, 0), (0, 1), (5, 1), (6, 1)] ?_ ?_); (focus kernel_rfl); conv => whnf)
      | ((with_reducible refine Dr.by (id := 25) Tryd.tysOk rfl [(0, 0), (1, 0), (2, 0), (3, 0), (4, 0), (5, 0), (6, 0), (7, 0), (8, 0), (9, 0), (11, 0), (12, 0), (13, 0), (14, 0), (10, 1), (15, 1), (16, 0), (17, 0), (18, 0), (19, 0)] ?_ ?_); (focus kernel_rfl); conv => whnf)
      | (first | ((with_reducible refine CD.is (fun M => ham _ (by ((repeat (first | assumption | apply Rd.cons | apply Rd.app)); done))) ?_); conv => whnf) | ((with_reducible refine CD.is (fun M => hho _) ?_); conv => whnf))
      | (first | ((with_reducible refine Br.ds (fun _ => ?_) (fun _ => ?_) ) <;> (conv => whnf)) | ((with_reducible refine Br.bs (fun _ => ?_) (fun _ => ?_) ) <;> (conv => whnf))))
    all_goals first | (exact ⟨n + 1, i + 1, j, (false, (a3, c3, ys), (a4, c4, zs)), by kernel_rfl, by (try dsimp only); (exact Ent.rfl), ⟨by omega, ⟨w1, w2, s1 (by assumption)⟩, ⟨hy.symm, y2, y3⟩, ⟨hz.symm, z2, z3⟩⟩, by omega⟩) | (exact ⟨n + 1, i + 1, j, (true, (a3, c3, ys), (a4, c4, zs)), by kernel_rfl, by (try dsimp only); (exact Ent.rfl), ⟨by omega, ⟨w1, w2, s2 (by assumption) (by assumption)⟩, ⟨hy.symm, y2, y3⟩, ⟨hz.symm, z2, z3⟩⟩, by omega⟩) | (exact ⟨n + 1, i + 1, j, (decide ((us.getD ((n : Int) - 1).toNat mrE.d).t ≤ (us.getD n mrE.d).t), (a3, c3, ys), (a4, c4, zs)), by kernel_rfl, by (try dsimp only); (exact Ent.rfl), ⟨by omega, ⟨w1, w2, s3 (by assumption) (by assumption)⟩, ⟨hy.symm, y2, y3⟩, ⟨hz.symm, z2, z3⟩⟩, by omega⟩) | (exfalso; omega)
theorem Tryd.tpL3 (a a' : Option Addr) (c c' : Nat) (xs : List Mrk) (ss : List Int) (f t : Int) (L : List HP) (hc : xs.length ≤ c) (hm : c ≤ 9223372036854775807) (hr : Rd mrE L a xs) (hc' : ss.length ≤ c') (hm' : c' ≤ 9223372036854775807) (hr' : Rd soE L a' ss) (hG : Tryd.Gk L) : (Tryd.tpD a a' c c' xs ss f t L hc hm hr hc' hm' hr' hG).1.2.2.1 := by
  conv => whnf
  set_option tactic.hygienic false in intros
  by_cases hO : 7 ≤ (us.getD n mrE.d).s ∧ (us.getD n mrE.d).s ≤ 9
  · have hz := filter_yes (p := pO) (d := mrE.d) hk (decide_eq_true hO)
    rw [← z1] at hz
    conv => whnf
    repeat' (first
      | (first | ((with_reducible refine Br.tt ?_); conv => whnf) | ((with_reducible refine Br.ff ?_); conv => whnf) | ((with_reducible refine Br.dt ?_ ?_); (focus (first | assumption | omega)); conv => whnf))
      | ((with_reducible refine Ar.i64 ?_ ?_); (focus omega); conv => whnf)
      | ((with_reducible refine Nd.mk ?_ ?_); (focus (first | omega | rfl | assumption | (simp; done))); conv => whnf)
      | ((with_reducible refine Nc.go' (fun _ => ?_)); conv => whnf)
      | ((with_reducible refine Ix.ad ?_ ?_ ?_); (focus (first | assumption | exact Rd.ad (by assumption))); (focus (omega)); conv => whnf)
      | ((first | (with_reducible apply Ld.rdk) | (with_reducible apply Ld.rdk0) | apply Ld.rd0); (focus ((repeat (first | assumption | apply Rd.cons)); done)); (focus rfl); (focus (omega)); (focus rfl); conv => whnf)
      | (first | ((with_reducible apply LdN.rdk); (focus ((repeat (first | assumption | ((refine Rd.own 3 rfl ?_); (assumption)) | apply Rd.cons)); done)); (focus rfl); (focus rfl); (focus (omega)); conv => whnf) | (refine LdN.at 4 rfl (by first | exact Nat.le_of_ble_eq_true rfl | (simp; done)) ?_; conv => whnf))
      | ((with_reducible refine Dr.by (id := 16) Tryd.tysOk rfl [(0, 0), (1, 0), (2, 0), (3, 0), (4, 0), (5, 0), (6, 0), (7, 0), (8, 0), (10, 0), (9, 1), (11, 1), (12, 0), (13, 0), (14, 0), (15, 0), (16, 0), (18, 0), (19, 0), (20, 0), (17, 1), (21, 1), (22, 0), (23, 0)] ?_ ?_); (focus kernel_rfl); conv => whnf)
      | ((with_reducible refine Dr.by (id := 18) Tryd.tysOk rfl [(0, 0), (1, 0), (2, 0), (3, 0), (4, 0), (5, 0), (6, 0), (7, 0), (9, 0), (10, 0), (11, 0), (8, 1), (12, 1), (13, 0), (14, 0)] ?_ ?_); (focus kernel_rfl); conv => whnf)
      | ((with_reducible refine Dr.by (id := 21) Tryd.tysOk rfl [(1, 0), (2, 0), (3, 0), (4, 0), (0, 1), (5, 1), (6, 1)] ?_ ?_); (focus kernel_rfl); conv => whnf)
      | ((with_reducible refine Dr.by (id := 25) Tryd.tysOk rfl [(0, 0), (1, 0), (2, 0), (3, 0), (4, 0), (5, 0), (6, 0), (7, 0), (8, 0), (9, 0), (11, 0), (12, 0), (13, 0), (14, 0), (10, 1), (15, 1), (16, 0), (17, 0), (18, 0), (19, 0)] ?_ ?_); (focus kernel_rfl); conv => whnf)
      | (first | ((with_reducible refine CD.is (fun M => ham _ (by ((repeat (first | assumption | apply Rd.cons | apply Rd.app)); done))) ?_); conv => whnf) | ((with_reducible refine CD.is (fun M => hho _) ?_); conv => whnf))
      | ((with_reducible refine (?_ : Sm _ (Builtin.append_ _ _ _) _ _)); ((first | ((with_reducible apply (Sm.appAt (E := mrE) (et := 29) Tryd.tysOk 1)); (focus rfl)) | ((with_reducible apply (Sm.appAt (E := mrE) (et := 29) Tryd.tysOk 3)); (focus rfl))); (rotate_left; (focus (exact Rd.ptc 0 rfl [_] rfl)); rotate_right; (focus rfl)); (focus rfl); (focus rfl); (focus rfl); (focus rfl); (focus rfl); (focus rfl); (focus ((simp only [List.length_append, List.length_cons, List.length_nil]); omega)); (intro _ _ _ _); conv => whnf))
      | (first | ((with_reducible refine Br.ds (fun _ => ?_) (fun _ => ?_) ) <;> (conv => whnf)) | ((with_reducible refine Br.bs (fun _ => ?_) (fun _ => ?_) ) <;> (conv => whnf))))
    all_goals first | (rename_i e1 a5 c5 hc5 hd5 e2 a6 c6 hc6 hd6 q0; exact ⟨n + 1, i, j + 1, (false, (a5, c5, ys ++ [us.getD n mrE.d]), (a6, c6, zs ++ [us.getD n mrE.d])), by kernel_rfl, by (try dsimp only); (refine FEnt.ent ?_; (repeat (first | exact FEnt.rfl | (refine FEnt.at 0 rfl ?_; (try simp only [List.eraseIdx_cons_zero, List.eraseIdx_cons_succ, List.eraseIdx_zero, List.tail_cons])) | (refine FEnt.at 2 rfl ?_; (try simp only [List.eraseIdx_cons_zero, List.eraseIdx_cons_succ, List.eraseIdx_zero, List.tail_cons])) | refine FEnt.drop ?_)); done), ⟨by omega, ⟨w1, w2, s1 (by assumption)⟩, ⟨hy.symm, hc5, hd5⟩, ⟨hz.symm, hc6, hd6⟩⟩, by omega⟩) | (rename_i e1 a5 c5 hc5 hd5 e2 a6 c6 hc6 hd6 q0 q1; exact ⟨n + 1, i, j + 1, (true, (a5, c5, ys ++ [us.getD n mrE.d]), (a6, c6, zs ++ [us.getD n mrE.d])), by kernel_rfl, by (try dsimp only); (refine FEnt.ent ?_; (repeat (first | exact FEnt.rfl | (refine FEnt.at 0 rfl ?_; (try simp only [List.eraseIdx_cons_zero, List.eraseIdx_cons_succ, List.eraseIdx_zero, List.tail_cons])) | (refine FEnt.at 2 rfl ?_; (try simp only [List.eraseIdx_cons_zero, List.eraseIdx_cons_succ, List.eraseIdx_zero, List.tail_cons])) | refine FEnt.drop ?_)); done), ⟨by omega, ⟨w1, w2, s2 (by assumption) (by assumption)⟩, ⟨hy.symm, hc5, hd5⟩, ⟨hz.symm, hc6, hd6⟩⟩, by omega⟩) | (rename_i e1 a5 c5 hc5 hd5 e2 a6 c6 hc6 hd6 q0 q1; exact ⟨n + 1, i, j + 1, (decide ((us.getD ((n : Int) - 1).toNat mrE.d).t ≤ (us.getD n mrE.d).t), (a5, c5, ys ++ [us.getD n mrE.d]), (a6, c6, zs ++ [us.getD n mrE.d])), by kernel_rfl, by (try dsimp only); (refine FEnt.ent ?_; (repeat (first | exact FEnt.rfl | (refine FEnt.at 0 rfl ?_; (try simp only [List.eraseIdx_cons_zero, List.eraseIdx_cons_succ, List.eraseIdx_zero, List.tail_cons])) | (refine FEnt.at 2 rfl ?_; (try simp only [List.eraseIdx_cons_zero, List.eraseIdx_cons_succ, List.eraseIdx_zero, List.tail_cons])) | refine FEnt.drop ?_)); done), ⟨by omega, ⟨w1, w2, s3 (by assumption) (by assumption)⟩, ⟨hy.symm, hc5, hd5⟩, ⟨hz.symm, hc6, hd6⟩⟩, by omega⟩) | (exfalso; omega)
  · have hz := filter_not (p := pO) (d := mrE.d) hk (decide_eq_false hO)
    rw [← z1] at hz
    conv => whnf
    repeat' (first
      | (first | ((with_reducible refine Br.tt ?_); conv => whnf) | ((with_reducible refine Br.ff ?_); conv => whnf) | ((with_reducible refine Br.dt ?_ ?_); (focus (first | assumption | omega)); conv => whnf) | ((with_reducible refine Br.df ?_ ?_); (focus (first | assumption | omega)); conv => whnf))
      | ((with_reducible refine Ar.i64 ?_ ?_); (focus omega); conv => whnf)
      | ((with_reducible refine Nd.mk ?_ ?_); (focus (first | omega | rfl | assumption | (simp; done))); conv => whnf)
      | ((with_reducible refine Nc.go' (fun _ => ?_)); conv => whnf)
      | ((with_reducible refine Ix.ad ?_ ?_ ?_); (focus (first | assumption | exact Rd.ad (by assumption))); (focus (omega)); conv => whnf)
      | ((first | (with_reducible apply Ld.rdk) | (with_reducible apply Ld.rdk0) | apply Ld.rd0); (focus ((repeat (first | assumption | apply Rd.cons)); done)); (focus rfl); (focus (omega)); (focus rfl); conv => whnf)
      | (first | ((with_reducible apply LdN.rdk); (focus ((repeat (first | assumption | ((refine Rd.own 3 rfl ?_); (assumption)) | apply Rd.cons)); done)); (focus rfl); (focus rfl); (focus (omega)); conv => whnf) | (refine LdN.at 4 rfl (by first | exact Nat.le_of_ble_eq_true rfl | (simp; done)) ?_; conv => whnf))
      | ((with_reducible refine Dr.by (id := 16) Tryd.tysOk rfl [(0, 0), (1, 0), (2, 0), (3, 0), (4, 0), (5, 0), (6, 0), (7, 0), (8, 0), (10, 0), (9, 1), (11, 1), (12, 0), (13, 0), (14, 0), (15, 0), (16, 0), (18, 0), (19, 0), (20, 0), (17, 1), (21, 1), (22, 0), (23, 0)] ?_ ?_); (focus kernel_rfl); conv => whnf)
      | ((with_reducible refine Dr.by (id := 18) Tryd.tysOk rfl [(0, 0), (1, 0), (2, 0), (3, 0), (4, 0), (5, 0), (6, 0), (7, 0), (9, 0), (10, 0), (11, 0), (8, 1), (12, 1), (13, 0), (14, 0)] ?_ ?_); (focus kernel_rfl); conv => whnf)
      | ((with_reducible refine Dr.by (id := 21) Tryd.tysOk rfl [(1, 0), (2, 0), (3, 0), (4, 0), (0, 1), (5, 1), (6, 1)] ?_ ?_); (focus kernel_rfl); conv => whnf)
      | ((with_reducible refine Dr.by (id := 25) Tryd.tysOk rfl [(0, 0), (1, 0), (2, 0), (3, 0), (4, 0), (5, 0), (6, 0), (7, 0), (8, 0), (9, 0), (11, 0), (12, 0), (13, 0), (14, 0), (10, 1), (15, 1), (16, 0), (17, 0), (18, 0), (19, 0)] ?_ ?_); (focus kernel_rfl); conv => whnf)
      | (first | ((with_reducible refine CD.is (fun M => ham _ (by ((repeat (first | assumption | apply Rd.cons | apply Rd.app)); done))) ?_); conv => whnf) | ((with_reducible refine CD.is (fun M => hho _) ?_); conv => whnf))
      | ((with_reducible refine (?_ : Sm _ (Builtin.append_ _ _ _) _ _)); (((with_reducible apply (Sm.appAt (E := mrE) (et := 29) Tryd.tysOk 1)); (focus rfl)); (rotate_left; (focus (exact Rd.ptc 0 rfl [_] rfl)); rotate_right; (focus rfl)); (focus rfl); (focus rfl); (focus rfl); (focus rfl); (focus rfl); (focus rfl); (focus ((simp only [List.length_append, List.length_cons, List.length_nil]); omega)); (intro _ _ _ _); conv => whnf))
      | (first | ((with_reducible refine Br.ds (fun _ => ?_) (fun _ => ?_) ) <;> (conv => whnf)) | ((with_reducible refine Br.bs (fun _ => ?_) (fun _ => ?_) ) <;> (conv => whnf))))
    all_goals first | (rename_i e1 a5 c5 hc5 hd5 q0 q1; exact ⟨n + 1, i, j + 1, (false, (a5, c5, ys ++ [us.getD n mrE.d]), (a4, c4, zs)), by kernel_rfl, by (try dsimp only); (refine FEnt.ent ?_; (repeat (first | exact FEnt.rfl | (refine FEnt.at 0 rfl ?_; (try simp only [List.eraseIdx_cons_zero, List.eraseIdx_cons_succ, List.eraseIdx_zero, List.tail_cons])) | (refine FEnt.at 1 rfl ?_; (try simp only [List.eraseIdx_cons_zero, List.eraseIdx_cons_succ, List.eraseIdx_zero, List.tail_cons])) | refine FEnt.drop ?_)); done), ⟨by omega, ⟨w1, w2, s1 (by assumption)⟩, ⟨hy.symm, hc5, hd5⟩, ⟨hz.symm, z2, z3⟩⟩, by omega⟩) | (rename_i e1 a5 c5 hc5 hd5 q0 q1 q2; exact ⟨n + 1, i, j + 1, (false, (a5, c5, ys ++ [us.getD n mrE.d]), (a4, c4, zs)), by kernel_rfl, by (try dsimp only); (refine FEnt.ent ?_; (repeat (first | exact FEnt.rfl | (refine FEnt.at 0 rfl ?_; (try simp only [List.eraseIdx_cons_zero, List.eraseIdx_cons_succ, List.eraseIdx_zero, List.tail_cons])) | (refine FEnt.at 1 rfl ?_; (try simp only [List.eraseIdx_cons_zero, List.eraseIdx_cons_succ, List.eraseIdx_zero, List.tail_cons])) | refine FEnt.drop ?_)); done), ⟨by omega, ⟨w1, w2, s1 (by assumption)⟩, ⟨hy.symm, hc5, hd5⟩, ⟨hz.symm, z2, z3⟩⟩, by omega⟩) | (rename_i e1 a5 c5 hc5 hd5 q0 q1 q2; exact ⟨n + 1, i, j + 1, (true, (a5, c5, ys ++ [us.getD n mrE.d]), (a4, c4, zs)), by kernel_rfl, by (try dsimp only); (refine FEnt.ent ?_; (repeat (first | exact FEnt.rfl | (refine FEnt.at 0 rfl ?_; (try simp only [List.eraseIdx_cons_zero, List.eraseIdx_cons_succ, List.eraseIdx_zero, List.tail_cons])) | (refine FEnt.at 1 rfl ?_; (try simp only [List.eraseIdx_cons_zero, List.eraseIdx_cons_succ, List.eraseIdx_zero, List.tail_cons])) | refine FEnt.drop ?_)); done), ⟨by omega, ⟨w1, w2, s2 (by assumption) (by assumption)⟩, ⟨hy.symm, hc5, hd5⟩, ⟨hz.symm, z2, z3⟩⟩, by omega⟩) | (rename_i e1 a5 c5 hc5 hd5 q0 q1 q2 q3; exact ⟨n + 1, i, j + 1, (true, (a5, c5, ys ++ [us.getD n mrE.d]), (a4, c4, zs)), by kernel_rfl, by (try dsimp only); fail, ⟨by omega, ⟨w1, w2, s2 (by assumption) (by assumption)⟩, ⟨hy.symm, hc5, hd5⟩, ⟨hz.symm, z2, z3⟩⟩, by omega⟩) | (rename_i e1 a5 c5 hc5 hd5 q0 q1 q2; exact ⟨n + 1, i, j + 1, (decide ((us.getD ((n : Int) - 1).toNat mrE.d).t ≤ (us.getD n mrE.d).t), (a5, c5, ys ++ [us.getD n mrE.d]), (a4, c4, zs)), by kernel_rfl, by (try dsimp only); (refine FEnt.ent ?_; (repeat (first | exact FEnt.rfl | (refine FEnt.at 0 rfl ?_; (try simp only [List.eraseIdx_cons_zero, List.eraseIdx_cons_succ, List.eraseIdx_zero, List.tail_cons])) | (refine FEnt.at 1 rfl ?_; (try simp only [List.eraseIdx_cons_zero, List.eraseIdx_cons_succ, List.eraseIdx_zero, List.tail_cons])) | refine FEnt.drop ?_)); done), ⟨by omega, ⟨w1, w2, s3 (by assumption) (by assumption)⟩, ⟨hy.symm, hc5, hd5⟩, ⟨hz.symm, z2, z3⟩⟩, by omega⟩) | (rename_i e1 a5 c5 hc5 hd5 q0 q1 q2 q3; exact ⟨n + 1, i, j + 1, (decide ((us.getD ((n : Int) - 1).toNat mrE.d).t ≤ (us.getD n mrE.d).t), (a5, c5, ys ++ [us.getD n mrE.d]), (a4, c4, zs)), by kernel_rfl, by (try dsimp only); fail, ⟨by omega, ⟨w1, w2, s3 (by assumption) (by assumption)⟩, ⟨hy.symm, hc5, hd5⟩, ⟨hz.symm, z2, z3⟩⟩, by omega⟩) | (exfalso; omega)
theorem Tryd.tpL4 (a a' : Option Addr) (c c' : Nat) (xs : List Mrk) (ss : List Int) (f t : Int) (L : List HP) (hc : xs.length ≤ c) (hm : c ≤ 9223372036854775807) (hr : Rd mrE L a xs) (hc' : ss.length ≤ c') (hm' : c' ≤ 9223372036854775807) (hr' : Rd soE L a' ss) (hG : Tryd.Gk L) : (Tryd.tpD a a' c c' xs ss f t L hc hm hr hc' hm' hr' hG).1.2.2.2.1 := by
  conv => whnf
  set_option tactic.hygienic false in intros
  by_cases hO : 7 ≤ (us.getD n mrE.d).s ∧ (us.getD n mrE.d).s ≤ 9
  · have hz := filter_yes (p := pO) (d := mrE.d) hk (decide_eq_true hO)
    rw [← z1] at hz
    conv => whnf
    repeat' (first
      | (first | ((with_reducible refine Br.tt ?_); conv => whnf) | ((with_reducible refine Br.ff ?_); conv => whnf) | ((with_reducible refine Br.dt ?_ ?_); (focus (first | assumption | omega)); conv => whnf))
      | ((with_reducible refine Ar.i64 ?_ ?_); (focus omega); conv => whnf)
      | ((with_reducible refine Nd.mk ?_ ?_); (focus (first | omega | rfl | assumption | (simp; done))); conv => whnf)
      | ((with_reducible refine Nc.go' (fun _ => ?_)); conv => whnf)
      | ((with_reducible refine Ix.ad ?_ ?_ ?_); (focus (first | assumption | exact Rd.ad (by assumption))); (focus (omega)); conv => whnf)
      | ((first | (with_reducible apply Ld.rdk) | (with_reducible apply Ld.rdk0) | apply Ld.rd0); (focus ((repeat (first | assumption | apply Rd.cons)); done)); (focus rfl); (focus (omega)); (focus rfl); conv => whnf)
      | (first | ((with_reducible apply LdN.rdk); (focus ((repeat (first | assumption | ((refine Rd.own 3 rfl ?_); (assumption)) | apply Rd.cons)); done)); (focus rfl); (focus rfl); (focus (omega)); conv => whnf) | (refine LdN.at 4 rfl (by first | exact Nat.le_of_ble_eq_true rfl | (simp; done)) ?_; conv => whnf))
      | ((with_reducible refine Dr.by (id := 16) Tryd.tysOk rfl [(0, 0), (1, 0), (2, 0), (3, 0), (4, 0), (5, 0), (6, 0), (7, 0), (8, 0), (10, 0), (9, 1), (11, 1), (12, 0), (13, 0), (14, 0), (15, 0), (16, 0), (18, 0), (19, 0), (20, 0), (17, 1), (21, 1), (22, 0), (23, 0)] ?_ ?_); (focus kernel_rfl); conv => whnf)
      | ((with_reducible refine Dr.by (id := 18) Tryd.tysOk rfl [(0, 0), (1, 0), (2, 0), (3, 0), (4, 0), (5, 0), (6, 0), (7, 0), (9, 0), (10, 0), (11, 0), (8, 1), (12, 1), (13, 0), (14, 0)] ?_ ?_); (focus kernel_rfl); conv => whnf)
      | ((with_reducible refine Dr.by (id := 21) Tryd.tysOk rfl [(1, 0), (2, 0), (3, 0), (4, 0), (0, 1), (5, 1), (6, 1)] ?_ ?_); (focus kernel_rfl); conv => whnf)
      | ((with_reducible refine Dr.by (id := 25) Tryd.tysOk rfl [(0, 0), (1, 0), (2, 0), (3, 0), (4, 0), (5, 0), (6, 0), (7, 0), (8, 0), (9, 0), (11, 0), (12, 0), (13, 0), (14, 0), (10, 1), (15, 1), (16, 0), (17, 0), (18, 0), (19, 0)] ?_ ?_); (focus kernel_rfl); conv => whnf)
      | (first | ((with_reducible refine CD.is (fun M => ham _ (by ((repeat (first | assumption | apply Rd.cons | apply Rd.app)); done))) ?_); conv => whnf) | ((with_reducible refine CD.is (fun M => hho _) ?_); conv => whnf))
      | ((with_reducible refine (?_ : Sm _ (Builtin.append_ _ _ _) _ _)); (((with_reducible apply (Sm.appAt (E := mrE) (et := 29) Tryd.tysOk 2)); (focus rfl)); (rotate_left; (focus (exact Rd.ptc 0 rfl [_] rfl)); rotate_right; (focus rfl)); (focus rfl); (focus rfl); (focus rfl); (focus rfl); (focus rfl); (focus rfl); (focus ((simp only [List.length_append, List.length_cons, List.length_nil]); omega)); (intro _ _ _ _); conv => whnf))
      | (first | ((with_reducible refine Br.ds (fun _ => ?_) (fun _ => ?_) ) <;> (conv => whnf)) | ((with_reducible refine Br.bs (fun _ => ?_) (fun _ => ?_) ) <;> (conv => whnf))))
    all_goals first | (rename_i e2 a6 c6 hc6 hd6 q0; exact ⟨n + 1, i, j + 1, (false, (a3, c3, ys), (a6, c6, zs ++ [us.getD n mrE.d])), by kernel_rfl, by (try dsimp only); (refine FEnt.ent ?_; (repeat (first | exact FEnt.rfl | (refine FEnt.at 0 rfl ?_; (try simp only [List.eraseIdx_cons_zero, List.eraseIdx_cons_succ, List.eraseIdx_zero, List.tail_cons])) | (refine FEnt.at 1 rfl ?_; (try simp only [List.eraseIdx_cons_zero, List.eraseIdx_cons_succ, List.eraseIdx_zero, List.tail_cons])) | (refine FEnt.at 2 rfl ?_; (try simp only [List.eraseIdx_cons_zero, List.eraseIdx_cons_succ, List.eraseIdx_zero, List.tail_cons])) | refine FEnt.drop ?_)); done), ⟨by omega, ⟨w1, w2, s1 (by assumption)⟩, ⟨hy.symm, y2, y3⟩, ⟨hz.symm, hc6, hd6⟩⟩, by omega⟩) | (rename_i e2 a6 c6 hc6 hd6 q0 q1; exact ⟨n + 1, i, j + 1, (true, (a3, c3, ys), (a6, c6, zs ++ [us.getD n mrE.d])), by kernel_rfl, by (try dsimp only); (refine FEnt.ent ?_; (repeat (first | exact FEnt.rfl | (refine FEnt.at 0 rfl ?_; (try simp only [List.eraseIdx_cons_zero, List.eraseIdx_cons_succ, List.eraseIdx_zero, List.tail_cons])) | (refine FEnt.at 1 rfl ?_; (try simp only [List.eraseIdx_cons_zero, List.eraseIdx_cons_succ, List.eraseIdx_zero, List.tail_cons])) | (refine FEnt.at 2 rfl ?_; (try simp only [List.eraseIdx_cons_zero, List.eraseIdx_cons_succ, List.eraseIdx_zero, List.tail_cons])) | refine FEnt.drop ?_)); done), ⟨by omega, ⟨w1, w2, s2 (by assumption) (by assumption)⟩, ⟨hy.symm, y2, y3⟩, ⟨hz.symm, hc6, hd6⟩⟩, by omega⟩) | (rename_i e2 a6 c6 hc6 hd6 q0 q1; exact ⟨n + 1, i, j + 1, (decide ((us.getD ((n : Int) - 1).toNat mrE.d).t ≤ (us.getD n mrE.d).t), (a3, c3, ys), (a6, c6, zs ++ [us.getD n mrE.d])), by kernel_rfl, by (try dsimp only); (refine FEnt.ent ?_; (repeat (first | exact FEnt.rfl | (refine FEnt.at 0 rfl ?_; (try simp only [List.eraseIdx_cons_zero, List.eraseIdx_cons_succ, List.eraseIdx_zero, List.tail_cons])) | (refine FEnt.at 1 rfl ?_; (try simp only [List.eraseIdx_cons_zero, List.eraseIdx_cons_succ, List.eraseIdx_zero, List.tail_cons])) | (refine FEnt.at 2 rfl ?_; (try simp only [List.eraseIdx_cons_zero, List.eraseIdx_cons_succ, List.eraseIdx_zero, List.tail_cons])) | refine FEnt.drop ?_)); done), ⟨by omega, ⟨w1, w2, s3 (by assumption) (by assumption)⟩, ⟨hy.symm, y2, y3⟩, ⟨hz.symm, hc6, hd6⟩⟩, by omega⟩) | (exfalso; omega)
  · have hz := filter_not (p := pO) (d := mrE.d) hk (decide_eq_false hO)
    rw [← z1] at hz
    conv => whnf
    repeat' (first
      | (first | ((with_reducible refine Br.tt ?_); conv => whnf) | ((with_reducible refine Br.ff ?_); conv => whnf) | ((with_reducible refine Br.dt ?_ ?_); (focus (first | assumption | omega)); conv => whnf) | ((with_reducible refine Br.df ?_ ?_); (focus (first | assumption | omega)); conv => whnf))
      | ((with_reducible refine Ar.i64 ?_ ?_); (focus omega); conv => whnf)
      | ((with_reducible refine Nd.mk ?_ ?_); (focus (first | omega | rfl | assumption | (simp; done))); conv => whnf)
      | ((with_reducible refine Ix.ad ?_ ?_ ?_); (focus (first | assumption | exact Rd.ad (by assumption))); (focus (omega)); conv => whnf)
      | ((first | (with_reducible apply Ld.rdk) | (with_reducible apply Ld.rdk0) | apply Ld.rd0); (focus ((repeat (first | assumption | apply Rd.cons)); done)); (focus rfl); (focus (omega)); (focus rfl); conv => whnf)
      | (first | ((with_reducible apply LdN.rdk); (focus ((repeat (first | assumption | ((refine Rd.own 3 rfl ?_); (assumption)) | apply Rd.cons)); done)); (focus rfl); (focus rfl); (focus (omega)); conv => whnf) | (refine LdN.at 4 rfl (by first | exact Nat.le_of_ble_eq_true rfl | (simp; done)) ?_; conv => whnf))
      | ((with_reducible refine Dr.by (id := 16) Tryd.tysOk rfl [(0, 0), (1, 0), (2, 0), (3, 0), (4, 0), (5, 0), (6, 0), (7, 0), (8, 0), (10, 0), (9, 1), (11, 1), (12, 0), (13, 0), (14, 0), (15, 0), (16, 0), (18, 0), (19, 0), (20, 0), (17, 1), (21, 1), (22, 0), (23, 0)] ?_ ?_); (focus kernel_rfl); conv => whnf)
      | ((with_reducible refine Dr.by (id := 18) Tryd.tysOk rfl [(0, 0), (1, 0), (2, 0), (3, 0), (4, 0), (5, 0), (6, 0), (7, 0), (9, 0), (10, 0), (11, 0), (8, 1), (12, 1), (13, 0), (14, 0)] ?_ ?_); (focus kernel_rfl); conv => whnf)
      | ((with_reducible refine Dr.by (id := 21) Tryd.tysOk rfl [(1, 0), (2, 0), (3, 0), (4, 0), (0, 1), (5, 1), (6, 1)] ?_ ?_); (focus kernel_rfl); conv => whnf)
      | ((with_reducible refine Dr.by (id := 25) Tryd.tysOk rfl [(0, 0), (1, 0), (2, 0), (3, 0), (4, 0), (5, 0), (6, 0), (7, 0), (8, 0), (9, 0), (11, 0), (12, 0), (13, 0), (14, 0), (10, 1), (15, 1), (16, 0), (17, 0), (18, 0), (19, 0)] ?_ ?_); (focus kernel_rfl); conv => whnf)
      | (first | ((with_reducible refine CD.is (fun M => ham _ (by ((repeat (first | assumption | apply Rd.cons | apply Rd.app)); done))) ?_); conv => whnf) | ((with_reducible refine CD.is (fun M => hho _) ?_); conv => whnf))
      | (first | ((with_reducible refine Br.ds (fun _ => ?_) (fun _ => ?_) ) <;> (conv => whnf)) | ((with_reducible refine Br.bs (fun _ => ?_) (fun _ => ?_) ) <;> (conv => whnf))))
    all_goals first | (exact ⟨n + 1, i, j + 1, (false, (a3, c3, ys), (a4, c4, zs)), by kernel_rfl, by (try dsimp only); (exact Ent.rfl), ⟨by omega, ⟨w1, w2, s1 (by assumption)⟩, ⟨hy.symm, y2, y3⟩, ⟨hz.symm, z2, z3⟩⟩, by omega⟩) | (exact ⟨n + 1, i, j + 1, (true, (a3, c3, ys), (a4, c4, zs)), by kernel_rfl, by (try dsimp only); (exact Ent.rfl), ⟨by omega, ⟨w1, w2, s2 (by assumption) (by assumption)⟩, ⟨hy.symm, y2, y3⟩, ⟨hz.symm, z2, z3⟩⟩, by omega⟩) | (exact ⟨n + 1, i, j + 1, (decide ((us.getD ((n : Int) - 1).toNat mrE.d).t ≤ (us.getD n mrE.d).t), (a3, c3, ys), (a4, c4, zs)), by kernel_rfl, by (try dsimp only); (exact Ent.rfl), ⟨by omega, ⟨w1, w2, s3 (by assumption) (by assumption)⟩, ⟨hy.symm, y2, y3⟩, ⟨hz.symm, z2, z3⟩⟩, by omega⟩) | (exfalso; omega)
theorem Tryd.tpL5 (a a' : Option Addr) (c c' : Nat) (xs : List Mrk) (ss : List Int) (f t : Int) (L : List HP) (hc : xs.length ≤ c) (hm : c ≤ 9223372036854775807) (hr : Rd mrE L a xs) (hc' : ss.length ≤ c') (hm' : c' ≤ 9223372036854775807) (hr' : Rd soE L a' ss) (hG : Tryd.Gk L) : (Tryd.tpD a a' c c' xs ss f t L hc hm hr hc' hm' hr' hG).1.2.2.2.2 := by
  conv => whnf
  set_option tactic.hygienic false in intros
  have e : n = us.length := by omega
  subst e
  rw [List.take_length] at v1 v2 v3 y1 z1
  rw [hA] at v1
  rw [hB] at v2
  subst y1 z1
  have hbo : bo = decide (sortT us) := by
    by_cases h : sortT us
    · rw [decide_eq_true h]; exact v3.2 h
    · rw [decide_eq_false h]
      cases hb : bo with
      | false => rfl
      | true => exact absurd (v3.1 hb) h
  subst hbo
  have hso := fun L h => Tryd.trcSorted a c us L (by omega) h
  have hbe := fun L h => Tryd.trcBetween a c us f t L (by omega) h
  have hou := fun L h => Tryd.trcOutputs a c us L (by omega) h
  have hli := fun L h => Tryd.trcLive L h
  have sm1 := fun a c a' c' L h h' => Con.dt rfl (Tryd.refMrSame a a' c c' (us.filter (pH f t)) (us.filter (pH f t)) L (by omega) h h')
  have sm2 := fun a c a' c' L h h' => Con.dt rfl (Tryd.refMrSame a a' c c' (us.filter pO) (us.filter pO) L (by omega) h h')
  clear ho1 ho2 v3 fA fB
  conv => whnf
  repeat' (first
    | (first | ((with_reducible refine Br.tt ?_); conv => whnf) | ((with_reducible refine Br.dt ?_ ?_); (focus (first | assumption | omega)); conv => whnf) | ((with_reducible refine Br.df ?_ ?_); (focus (first | assumption | omega)); conv => whnf) | ((with_reducible refine Br.eqt ?_ ?_); (focus (first | rfl | assumption)); conv => whnf))
    | (refine LdN.at 4 rfl (by first | exact Nat.le_of_ble_eq_true rfl | (simp; done)) ?_; conv => whnf)
    | (first | ((with_reducible refine Cl.is (hso _ (by ((repeat (first | assumption | apply Rd.cons)); done))) ?_); conv => whnf) | ((with_reducible refine (?_ : Cl _ 10 _ _ _ _)); (refine Cl.is (hli _ (by ((repeat (first | assumption | apply Tryd.gkCons | apply Tryd.gkApp)); done))) ?_); conv => whnf) | ((with_reducible refine (?_ : Cl _ 13 _ _ _ _)); (refine Cl.new (hbe _ (by ((repeat (first | assumption | apply Rd.cons)); done))) (fun _ _ _ _ => ?_)); conv => whnf) | ((with_reducible refine (?_ : Cl _ 14 _ _ _ _)); (refine Cl.new (hou _ (by ((repeat (first | assumption | apply Rd.cons)); done))) (fun _ _ _ _ => ?_)); conv => whnf) | ((with_reducible refine (?_ : Cl _ 12 _ _ _ _)); (first | refine Cl.is (sm1 _ _ _ _ _ (by ((repeat (first | ((refine Rd.own 0 rfl ?_); (assumption)) | apply Rd.cons)); done)) (by ((repeat (first | ((refine Rd.own 1 rfl ?_); (assumption)) | apply Rd.cons)); done))) ?_ | refine Cl.is (sm2 _ _ _ _ _ (by ((repeat ((refine Rd.own 0 rfl ?_); (assumption))); done)) (by ((repeat ((refine Rd.own 3 rfl ?_); (assumption))); done))) ?_); conv => whnf)))
  all_goals first | (refine Is.ent ?_ ?_; (focus (refine FEnt.ent ?_; (repeat (first | exact FEnt.rfl | refine FEnt.drop ?_)); done)); (exact Is.rfl)) | (exfalso; omega)
theorem Tryd.tracePicksLaw (a a' : Option Addr) (c c' : Nat) (xs : List Mrk) (ss : List Int) (f t : Int) (L : List HP) (hc : xs.length ≤ c) (hm : c ≤ 9223372036854775807) (hr : Rd mrE L a xs) (hc' : ss.length ≤ c') (hm' : c' ≤ 9223372036854775807) (hr' : Rd soE L a' ss) (hG : Tryd.Gk L) :
    Con Tryd.prog 3 [.slice a xs.length c, .slice a' ss.length c', spV f t] L (Is (.bool true) L) :=
  (Tryd.tpD a a' c c' xs ss f t L hc hm hr hc' hm' hr' hG).2 (Tryd.tpL1 a a' c c' xs ss f t L hc hm hr hc' hm' hr' hG) (Tryd.tpL2 a a' c c' xs ss f t L hc hm hr hc' hm' hr' hG) (Tryd.tpL3 a a' c c' xs ss f t L hc hm hr hc' hm' hr' hG) (Tryd.tpL4 a a' c c' xs ss f t L hc hm hr hc' hm' hr' hG) (Tryd.tpL5 a a' c c' xs ss f t L hc hm hr hc' hm' hr' hG)
end Go.Proofs
