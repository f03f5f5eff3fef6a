/- The arbiter of the bus: its tables, and what the bus is at a tick: contracts. -/
import Derived.Test.YtdjpcfaidgofoaaGreatClockNth
import Derived.Test.YtdjpcfaidgofoaaGreatEngMore
set_option linter.all false
namespace Go.Proofs
open Go.Eng
set_option linter.unusedVariables false
set_option maxRecDepth 100000
set_option maxHeartbeats 1000000
/-- a slot: its owner, where it begins, where it ends -/
abbrev Slt := Int × Int × Int
def slE : Enc Slt := ⟨3, fun r => [n64 r.1, n64 r.2.1, n64 r.2.2], (0, 0, 0), fun _ => rfl, by omega, fun _ => rfl⟩
abbrev slV (o f t : Int) : Value := .agg #[n64 o, n64 f, n64 t]
abbrev slB (r : Slt) : Prop := (-9223372036854775808 ≤ r.1 ∧ r.1 ≤ 9223372036854775807) ∧ (-9223372036854775808 ≤ r.2.1 ∧ r.2.1 ≤ 9223372036854775807) ∧ (-9223372036854775808 ≤ r.2.2 ∧ r.2.2 ≤ 9223372036854775807)
/-- its offsets -/
def slP (r : Slt) : Sp := (r.2.1, r.2.2)
abbrev okS (n : Int) (r : Slt) : Prop := 1 ≤ r.1 ∧ r.1 ≤ 8 ∧ 0 ≤ r.2.1 ∧ r.2.1 < r.2.2 ∧ r.2.2 ≤ n
def slOk (n : Int) (xs : List Slt) (k : Nat) : Prop := ∀ i, i < k → okS n (xs.getD i slE.d) ∧ ∀ j, j < i → ¬ meetP (slP (xs.getD j slE.d)) (slP (xs.getD i slE.d))
/-- what is wrong with slots -/
inductive ChkR (n : Int) (xs : List Slt) : Int → Prop where
  | frame (h : ¬ okF n) : ChkR n xs 2
  | bad (h : okF n) (k : Nat) (hk : k < xs.length) (g : slOk n xs k) (b : ¬ okS n (xs.getD k slE.d)) : ChkR n xs 2
  | meet (h : okF n) (k : Nat) (hk : k < xs.length) (g : slOk n xs k) (o : okS n (xs.getD k slE.d)) (j : Nat) (hj : j < k) (m : meetP (slP (xs.getD j slE.d)) (slP (xs.getD k slE.d))) : ChkR n xs 11
  | ok (h : okF n) (g : slOk n xs xs.length) : ChkR n xs 0
theorem slOk_not {n : Int} {xs : List Slt} {k m : Nat} (h : slOk n xs m) (hk : k < m) : okS n (xs.getD k slE.d) ∧ ∀ j, j < k → ¬ meetP (slP (xs.getD j slE.d)) (slP (xs.getD k slE.d)) := h k hk
theorem ChkR.uniq {n : Int} {xs : List Slt} {e e' : Int} (h : ChkR n xs e) (h' : ChkR n xs e') : e = e' := by
  cases h with
  | frame h => cases h' with
    | frame _ => rfl
    | bad _ _ _ _ _ => rfl
    | meet h2 _ _ _ _ _ _ _ => exact (h h2).elim
    | ok h2 _ => exact (h h2).elim
  | bad h k hk g b => cases h' with
    | frame h2 => rfl
    | bad _ _ _ _ _ => rfl
    | meet _ k' hk' g' o' j hj m =>
      rcases Nat.lt_trichotomy k k' with h1 | h1 | h1
      · exact (b (g' k h1).1).elim
      · subst h1; exact (b o').elim
      · exact ((g k' h1).2 j hj m).elim
    | ok _ g' => exact (b (g' k hk).1).elim
  | meet h k hk g o j hj m => cases h' with
    | frame h2 => exact (h2 h).elim
    | bad _ k' hk' g' b' =>
      rcases Nat.lt_trichotomy k k' with h1 | h1 | h1
      · exact ((g' k h1).2 j hj m).elim
      · subst h1; exact (b' o).elim
      · exact (b' (g k' h1).1).elim
    | meet _ _ _ _ _ _ _ _ => rfl
    | ok _ g' => exact ((g' k hk).2 j hj m).elim
  | ok h g => cases h' with
    | frame h2 => exact (h2 h).elim
    | bad _ k' hk' g' b' => exact (b' (g k' hk').1).elim
    | meet _ k' hk' g' o' j hj m => exact ((g k' hk').2 j hj m).elim
    | ok _ _ => rfl
noncomputable def chkF (n : Int) (xs : List Slt) : Int := Classical.epsilon (ChkR n xs)
theorem chkF_eq {n : Int} {xs : List Slt} {e : Int} (h : ChkR n xs e) : chkF n xs = e := (Classical.epsilon_spec (p := ChkR n xs) ⟨e, h⟩).uniq h
theorem Tryz.slPlaces (o f t : Int) (L : List HP) : Con Tryz.prog 131 [slV o f t] L (Is (spV f t) L) := by
  refine con_of Tryz.tysOk Tryz.func131 rfl rfl ?_
  conv => whnf
  repeat' (first
    | ((with_reducible refine Nd.mk ?_ ?_); (focus (first | omega | rfl | assumption | (simp; done))); conv => whnf)
    | ((with_reducible refine Nc.go' (fun _ => ?_)); conv => whnf)
    | (refine Ld.at 1 rfl rfl ?_; conv => whnf)
    | (refine LdN.at 0 rfl (by first | exact Nat.le_of_ble_eq_true rfl | (simp; done)) ?_; conv => whnf)
    | (refine St.at 0 rfl (by first | exact Nat.le_of_ble_eq_true rfl | (simp; done)) rfl ?_; conv => whnf))
  all_goals (refine Is.ent ?_ ?_; (focus (refine FEnt.ent ?_; (repeat (first | exact FEnt.rfl | refine FEnt.drop ?_)); done)); (exact Is.rfl))
theorem Tryz.slIndex (a : Option Addr) (c : Nat) (xs : List Slt) (L : List HP) (hb : xs.length < 9223372036854775807) (hr : Rd slE L a xs) (g : FuncId) (cs : List Value) (p : Slt → Bool)
    (hg : ∀ o f t, Con Tryz.prog g (slV o f t :: cs) L (Is (.bool (p (o, f, t))) L)) :
    Con Tryz.prog 159 [.slice a xs.length c, .func (.func g) #[] cs.toArray] L (Is (.int .i64 (idxF p xs)) L) := by
  refine con_of Tryz.tysOk Tryz.func159 rfl rfl ?_
  conv => whnf
  refine Lp.by Tryz.tysOk [8] (fun k : Nat => [.int .i64 k]) (fun _ => L) (fun k => k ≤ xs.length ∧ ∀ i, i < k → p (xs.getD i slE.d) = false) (fun k => xs.length - k) (0) (by kernel_rfl) (by (exact Ent.rfl)) (⟨by omega, fun i h => by omega⟩) ?_
  rintro k ⟨h1, h2⟩
  conv => whnf
  repeat (intro _; conv => whnf)
  conv => whnf
  repeat' (first
    | ((with_reducible refine Ix.ad ?_ ?_ ?_); (focus (exact Rd.ad (by assumption))); (focus (omega)); conv => whnf)
    | ((with_reducible apply LdN.rdk); (focus ((repeat (assumption)); done)); (focus rfl); (focus rfl); (focus (omega)); conv => whnf)
    | ((with_reducible refine Br.ds (fun _ => ?_) (fun _ => ?_) ) <;> (conv => whnf)))
  · rw [forceL_eq]
    refine Cl.is (hg _ _ _) ?_
    conv => whnf
    repeat' (first
      | ((with_reducible refine Ar.i64 ?_ ?_); (focus omega); conv => whnf)
      | ((with_reducible refine Br.bs (fun _ => ?_) (fun _ => ?_) ) <;> (conv => whnf)))
    · rw [idxF_at slE.d p xs k (by omega) (by assumption) h2]
      exact Is.ent (by (exact Ent.rfl)) Is.rfl
    · refine ⟨k + 1, by kernel_rfl, by (exact Ent.rfl), ⟨by omega, lt_step h2 (by assumption)⟩, by omega⟩
  · rw [idxF_no slE.d p xs (fun i hi => h2 i (by omega))]
    exact Is.ent (by (exact Ent.rfl)) Is.rfl
theorem Tryz.slContains (a : Option Addr) (c : Nat) (xs : List Slt) (L : List HP) (hb : xs.length < 9223372036854775807) (hr : Rd slE L a xs) (g : FuncId) (cs : List Value) (p : Slt → Bool)
    (hg : ∀ o f t, Con Tryz.prog g (slV o f t :: cs) L (Is (.bool (p (o, f, t))) L)) :
    Con Tryz.prog 99 [.slice a xs.length c, .func (.func g) #[] cs.toArray] L (Is (.bool (decide (∃ i, i < xs.length ∧ p (xs.getD i slE.d) = true))) L) := by
  refine con_of Tryz.tysOk Tryz.func99 rfl rfl ?_
  conv => whnf
  repeat' ((with_reducible refine Cl.is (Tryz.slIndex _ _ _ _ hb hr _ _ p hg) ?_); conv => whnf)
  refine Is.ent (by (exact Ent.rfl)) (Is.dec ?_)
  rcases idxF_spec slE.d p xs with ⟨h1, h2⟩ | ⟨m, h1, h2, h3, h4⟩
  · rw [h1]
    exact ⟨fun h => by omega, fun ⟨i, hi, hp⟩ => by rw [h2 i hi] at hp; cases hp⟩
  · rw [h2]
    exact ⟨fun _ => ⟨m, h1, h3⟩, fun _ => by omega⟩
theorem Tryz.slNew1 (b : Nat) (o f t o' f' t' : Int) (L : List HP) (t0 : TypeId) (hb : ∃ i : Nat, L[i]? = some (ptc b t0 [n64 o', n64 f', n64 t'])) :
    Con Tryz.prog 132 [slV o f t, .pointer (some ⟨b, 0, none⟩)] L (Is (.bool (decide (meetP (f, t) (f', t')))) L) := by
  obtain ⟨i, hi⟩ := hb
  refine con_of Tryz.tysOk Tryz.func132 rfl rfl ?_
  conv => whnf
  repeat' (first
    | ((with_reducible refine Nd.mk ?_ ?_); (focus (first | omega | rfl | assumption | (simp; done))); conv => whnf)
    | ((with_reducible refine Nc.go' (fun _ => ?_)); conv => whnf)
    | (refine LdN.at 0 rfl (by first | exact Nat.le_of_ble_eq_true rfl | (simp; done)) ?_; conv => whnf)
    | (refine St.at 0 rfl (by first | exact Nat.le_of_ble_eq_true rfl | (simp; done)) rfl ?_; conv => whnf)
    | ((with_reducible refine Dr.by (id := 1) Tryz.tysOk rfl [(0, 1), (1, 1), (2, 1), (3, 1), (4, 1), (5, 0), (6, 0), (7, 0), (8, 2), (9, 3), (10, 0)] ?_ ?_); (focus kernel_rfl); conv => whnf)
    | (first | ((with_reducible refine CD.is (fun M => Tryz.slPlaces _ _ _ _) ?_); conv => whnf) | ((with_reducible refine CD.is (fun M => Tryz.spanMeet _ _ _ _ _) ?_); conv => whnf))
    | (refine LdN.at (i + 1) (by simpa using hi) (by exact Nat.le_of_ble_eq_true rfl) ?_; conv => whnf))
  all_goals (refine Is.ent ?_ ?_; (focus (refine FEnt.ent ?_; (repeat (first | exact FEnt.rfl | refine FEnt.drop ?_)); done)); (exact Is.rfl))
/-- a table: its ticks, and its slots -/
abbrev slT (b : Nat) (n : Int) (a : Option Addr) (c : Nat) (xs : List Slt) : HP := ptc b 264 [n64 n, .slice a xs.length c]
theorem Tryz.slNewOk (n : Int) (a : Option Addr) (c : Nat) (xs : List Slt) (L : List HP) (hl : xs.length ≤ 1000) (hf : okF n) (h : slOk n xs xs.length) (hr : Rd slE L a xs) :
    Con Tryz.prog 68 [n64 n, .slice a xs.length c] L (Exs (fun y : Nat × Option Addr × Nat => .tuple #[.pointer (some ⟨y.1, 0, none⟩), n64 0]) (fun y => ptc y.1 264 [n64 n, .slice y.2.1 xs.length y.2.2] :: own slE 44 y.2.1 y.2.2 xs :: L) (fun y => xs.length ≤ y.2.2 ∧ Ad y.2.1 xs.length)) := by
  refine con_of Tryz.tysOk Tryz.func68 rfl rfl ?_
  conv => whnf
  repeat' (first
    | ((with_reducible refine Br.nt ?_); conv => whnf)
    | ((with_reducible refine Nc.go' (fun _ => ?_)); conv => whnf)
    | ((with_reducible refine Cl.is (Con.dt hf (Tryz.clkRight _ _)) ?_); conv => whnf))
  rename_i bt
  conv => whnf
  refine Lp.by3 Tryz.tysOk [17] (fun (k : Nat) (ys : List Slt) (x : Option Addr × Nat) => [.int .i64 k]) (fun k ys x => ptc bt 264 [n64 n, .slice x.1 ys.length x.2] :: own slE 44 x.1 x.2 ys :: L) (fun k ys x => k ≤ xs.length ∧ ys = xs.take k ∧ ys.length ≤ x.2 ∧ Ad x.1 ys.length) (fun k ys x => xs.length - k) (0) (([] : List Slt)) (((none, 0) : Option Addr × Nat)) (by kernel_rfl) (by (refine FEnt.ent ?_; (repeat (first | exact FEnt.rfl | (refine FEnt.at 0 rfl ?_; (try simp only [List.eraseIdx_cons_zero, List.eraseIdx_cons_succ, List.eraseIdx_zero, List.tail_cons])) | refine FEnt.nil ?_)); done)) (⟨by omega, rfl, Nat.le_refl _, fun h => (h rfl).elim⟩) ?_
  rintro k ys ⟨a2, c2⟩ ⟨h1, h2, h3, h4⟩
  conv => whnf
  repeat (intro _; conv => whnf)
  dsimp only at h3 h4
  by_cases hk : k < xs.length
  · have hm := h k hk
    have hyl : ys.length = k := by rw [h2, List.length_take]; omega
    have hsn : xs.take (k + 1) = ys ++ [xs.getD k slE.d] := by
      rw [h2, List.take_add_one, List.getElem?_eq_getElem hk]
      simp [List.getD, hk]
    have hno : ¬ ∃ i, i < ys.length ∧ (fun s : Slt => decide (meetP (slP s) (slP (xs.getD k slE.d)))) (ys.getD i slE.d) = true := by
      rintro ⟨i, hi, hp⟩
      rw [h2, getD_take (by omega)] at hp
      exact hm.2 i (by omega) (of_decide_eq_true hp)
    have hst : isS (xs.getD k slE.d).2.1 (xs.getD k slE.d).2.2 ∧ (xs.getD k slE.d).2.2 ≤ n := ⟨⟨hm.1.2.2.1, hm.1.2.2.2.1⟩, hm.1.2.2.2.2⟩
    conv => whnf
    repeat' (first
      | (first | ((with_reducible refine Br.ff ?_); conv => whnf) | ((with_reducible refine Br.nt ?_); conv => whnf) | ((with_reducible refine Br.dt ?_ ?_); (focus (first | assumption | omega)); conv => whnf) | ((with_reducible refine Br.df ?_ ?_); (focus (first | assumption | omega)); conv => whnf))
      | ((with_reducible refine Ar.i64 ?_ ?_); (focus omega); conv => whnf)
      | ((with_reducible refine Nd.mk ?_ ?_); (focus (first | omega | rfl | assumption | (simp; done))); conv => whnf)
      | ((with_reducible refine Nc.go' (fun _ => ?_)); conv => whnf)
      | ((with_reducible refine Ix.ad ?_ ?_ ?_); (focus (exact Rd.ad (by assumption))); (focus (omega)); conv => whnf)
      | (first | (refine Ld.at 0 rfl rfl ?_; conv => whnf) | (refine Ld.at 1 rfl rfl ?_; conv => whnf))
      | (first | ((with_reducible apply LdN.rdk); (focus ((repeat (first | assumption | apply Rd.cons)); done)); (focus rfl); (focus rfl); (focus (omega)); conv => whnf) | (refine LdN.at 0 rfl (by first | exact Nat.le_of_ble_eq_true rfl | (simp; done)) ?_; conv => whnf))
      | (first | (refine St.at 0 rfl (by first | exact Nat.le_of_ble_eq_true rfl | (simp; done)) rfl ?_; conv => whnf) | (refine St.at 3 rfl (by first | exact Nat.le_of_ble_eq_true rfl | (simp; done)) rfl ?_; conv => whnf))
      | ((with_reducible refine Dr.by (id := 11) Tryz.tysOk rfl [(0, 0), (1, 0), (2, 0), (3, 0), (4, 1), (5, 1), (6, 2), (7, 3), (8, 0), (9, 0), (10, 3)] ?_ ?_); (focus kernel_rfl); conv => whnf)
      | (first | ((with_reducible refine Cl.is (Tryz.slPlaces _ _ _ _) ?_); conv => whnf) | ((with_reducible refine Cl.is (Con.dt hst (Tryz.spanIn _ _ _ _)) ?_); conv => whnf) | ((with_reducible refine (?_ : Cl _ 99 _ _ _ _)); (refine Cl.is (Con.df hno (Tryz.slContains _ _ ys _ (by (omega)) (by ((repeat ((refine Rd.own 2 rfl ?_); (assumption))); done)) _ [_] (fun s : Slt => decide (meetP (slP s) (slP (xs.getD k slE.d)))) (fun o f t => Tryz.slNew1 _ _ _ _ _ _ _ _ _ ⟨0, rfl⟩))) ?_); conv => whnf))
      | ((with_reducible refine (?_ : Sm _ (Builtin.append_ _ _ _) _ _)); (((with_reducible apply (Sm.appAt (E := slE) (et := 44) Tryz.tysOk 3)); (focus rfl)); (rotate_left; (focus (exact Rd.ptc 0 rfl [_] rfl)); rotate_right; (focus rfl)); (focus rfl); (focus rfl); (focus rfl); (focus rfl); (focus rfl); (focus rfl); (focus ((simp only [List.length_append, List.length_cons, List.length_nil]); omega)); (intro _ _ _ _); conv => whnf)))
    all_goals (rename_i a3 c3 hc3 had3; exact ⟨k + 1, ys ++ [xs.getD k slE.d], (a3, c3), by kernel_rfl, by (refine FEnt.ent ?_; (repeat (first | exact FEnt.rfl | (refine FEnt.at 0 rfl ?_; (try simp only [List.eraseIdx_cons_zero, List.eraseIdx_cons_succ, List.eraseIdx_zero, List.tail_cons])) | (refine FEnt.at 3 rfl ?_; (try simp only [List.eraseIdx_cons_zero, List.eraseIdx_cons_succ, List.eraseIdx_zero, List.tail_cons])) | refine FEnt.drop ?_)); done), ⟨by omega, hsn.symm, hc3, had3⟩, by omega⟩)
  · have e : k = xs.length := by omega
    subst e
    rw [List.take_length] at h2
    subst h2
    conv => whnf
    repeat' ((with_reducible refine Br.df ?_ ?_); (focus (first | assumption | omega)); conv => whnf)
    all_goals exact Exs.of ((bt, a2, c2) : Nat × Option Addr × Nat) (by (try dsimp only); (exact Ent.rfl)) ⟨h3, h4⟩ rfl
theorem Tryz.slNewNo (n : Int) (a : Option Addr) (c : Nat) (xs : List Slt) (e : Int) (L : List HP) (hl : xs.length ≤ 1000) (hE : ChkR n xs e) (he : e ≠ 0) (hr : Rd slE L a xs) :
    Con Tryz.prog 68 [n64 n, .slice a xs.length c] L (Is (.tuple #[.pointer none, n64 e]) L) := by
  by_cases hf : okF n
  · refine con_of Tryz.tysOk Tryz.func68 rfl rfl ?_
    conv => whnf
    repeat' (first
      | ((with_reducible refine Br.nt ?_); conv => whnf)
      | ((with_reducible refine Nc.go' (fun _ => ?_)); conv => whnf)
      | ((with_reducible refine Cl.is (Con.dt hf (Tryz.clkRight _ _)) ?_); conv => whnf))
    rename_i bt
    conv => whnf
    refine Lp.by3 Tryz.tysOk [17] (fun (k : Nat) (ys : List Slt) (x : Option Addr × Nat) => [.int .i64 k]) (fun k ys x => ptc bt 264 [n64 n, .slice x.1 ys.length x.2] :: own slE 44 x.1 x.2 ys :: L) (fun k ys x => k ≤ xs.length ∧ ys = xs.take k ∧ ys.length ≤ x.2 ∧ Ad x.1 ys.length ∧ slOk n xs k) (fun k ys x => xs.length - k) (0) (([] : List Slt)) (((none, 0) : Option Addr × Nat)) (by kernel_rfl) (by (refine FEnt.ent ?_; (repeat (first | exact FEnt.rfl | (refine FEnt.at 0 rfl ?_; (try simp only [List.eraseIdx_cons_zero, List.eraseIdx_cons_succ, List.eraseIdx_zero, List.tail_cons])) | refine FEnt.nil ?_)); done)) (⟨by omega, rfl, Nat.le_refl _, fun h => (h rfl).elim, fun i h => by omega⟩) ?_
    rintro k ys ⟨a2, c2⟩ ⟨h1, h2, h3, h4, h5⟩
    conv => whnf
    repeat (intro _; conv => whnf)
    dsimp only at h3 h4
    by_cases hk : k < xs.length
    · have hyl : ys.length = k := by rw [h2, List.length_take]; omega
      have hsn : xs.take (k + 1) = ys ++ [xs.getD k slE.d] := by
        rw [h2, List.take_add_one, List.getElem?_eq_getElem hk]
        simp [List.getD, hk]
      by_cases hm : okS n (xs.getD k slE.d)
      · have hst : isS (xs.getD k slE.d).2.1 (xs.getD k slE.d).2.2 ∧ (xs.getD k slE.d).2.2 ≤ n := ⟨⟨hm.2.2.1, hm.2.2.2.1⟩, hm.2.2.2.2⟩
        by_cases hmt : ∃ i, i < ys.length ∧ (fun s : Slt => decide (meetP (slP s) (slP (xs.getD k slE.d)))) (ys.getD i slE.d) = true
        · have e11 : e = 11 := by
            obtain ⟨j, hj, hp⟩ := hmt
            rw [h2, getD_take (by omega)] at hp
            exact hE.uniq (.meet hf k hk h5 hm j (by omega) (of_decide_eq_true hp))
          subst e11
          conv => whnf
          repeat' (first
            | (first | ((with_reducible refine Br.tt ?_); conv => whnf) | ((with_reducible refine Br.ff ?_); conv => whnf) | ((with_reducible refine Br.nt ?_); conv => whnf) | ((with_reducible refine Br.dt ?_ ?_); (focus (first | assumption | omega)); conv => whnf) | ((with_reducible refine Br.df ?_ ?_); (focus (first | assumption | omega)); conv => whnf))
            | ((with_reducible refine Nd.mk ?_ ?_); (focus (first | omega | rfl | assumption | (simp; done))); conv => whnf)
            | ((with_reducible refine Nc.go' (fun _ => ?_)); conv => whnf)
            | ((with_reducible refine Ix.ad ?_ ?_ ?_); (focus (exact Rd.ad (by assumption))); (focus (omega)); conv => whnf)
            | (first | (refine Ld.at 0 rfl rfl ?_; conv => whnf) | (refine Ld.at 1 rfl rfl ?_; conv => whnf))
            | (first | ((with_reducible apply LdN.rdk); (focus ((repeat (first | assumption | apply Rd.cons)); done)); (focus rfl); (focus rfl); (focus (omega)); conv => whnf) | (refine LdN.at 0 rfl (by first | exact Nat.le_of_ble_eq_true rfl | (simp; done)) ?_; conv => whnf))
            | (refine St.at 0 rfl (by first | exact Nat.le_of_ble_eq_true rfl | (simp; done)) rfl ?_; conv => whnf)
            | (first | ((with_reducible refine Cl.is (Tryz.slPlaces _ _ _ _) ?_); conv => whnf) | ((with_reducible refine Cl.is (Con.dt hst (Tryz.spanIn _ _ _ _)) ?_); conv => whnf) | ((with_reducible refine (?_ : Cl _ 99 _ _ _ _)); (refine Cl.is (Con.dt hmt (Tryz.slContains _ _ ys _ (by (omega)) (by ((repeat ((refine Rd.own 2 rfl ?_); (assumption))); done)) _ [_] (fun s : Slt => decide (meetP (slP s) (slP (xs.getD k slE.d)))) (fun o f t => Tryz.slNew1 _ _ _ _ _ _ _ _ _ ⟨0, rfl⟩))) ?_); conv => whnf)))
          all_goals (refine Is.ent ?_ ?_; (focus (refine FEnt.ent ?_; (repeat (first | exact FEnt.rfl | refine FEnt.drop ?_)); done)); (exact Is.rfl))
        · have hall : ∀ i, i < k → ¬ meetP (slP (xs.getD i slE.d)) (slP (xs.getD k slE.d)) := fun i hi hp => hmt ⟨i, by omega, by rw [h2, getD_take hi]; exact decide_eq_true hp⟩
          conv => whnf
          repeat' (first
            | (first | ((with_reducible refine Br.ff ?_); conv => whnf) | ((with_reducible refine Br.nt ?_); conv => whnf) | ((with_reducible refine Br.dt ?_ ?_); (focus (first | assumption | omega)); conv => whnf) | ((with_reducible refine Br.df ?_ ?_); (focus (first | assumption | omega)); conv => whnf))
            | ((with_reducible refine Ar.i64 ?_ ?_); (focus omega); conv => whnf)
            | ((with_reducible refine Nd.mk ?_ ?_); (focus (first | omega | rfl | assumption | (simp; done))); conv => whnf)
            | ((with_reducible refine Nc.go' (fun _ => ?_)); conv => whnf)
            | ((with_reducible refine Ix.ad ?_ ?_ ?_); (focus (exact Rd.ad (by assumption))); (focus (omega)); conv => whnf)
            | (first | (refine Ld.at 0 rfl rfl ?_; conv => whnf) | (refine Ld.at 1 rfl rfl ?_; conv => whnf))
            | (first | ((with_reducible apply LdN.rdk); (focus ((repeat (first | assumption | apply Rd.cons)); done)); (focus rfl); (focus rfl); (focus (omega)); conv => whnf) | (refine LdN.at 0 rfl (by first | exact Nat.le_of_ble_eq_true rfl | (simp; done)) ?_; conv => whnf))
            | (first | (refine St.at 0 rfl (by first | exact Nat.le_of_ble_eq_true rfl | (simp; done)) rfl ?_; conv => whnf) | (refine St.at 3 rfl (by first | exact Nat.le_of_ble_eq_true rfl | (simp; done)) rfl ?_; conv => whnf))
            | ((with_reducible refine Dr.by (id := 11) Tryz.tysOk rfl [(0, 0), (1, 0), (2, 0), (3, 0), (4, 1), (5, 1), (6, 2), (7, 3), (8, 0), (9, 0), (10, 3)] ?_ ?_); (focus kernel_rfl); conv => whnf)
            | (first | ((with_reducible refine Cl.is (Tryz.slPlaces _ _ _ _) ?_); conv => whnf) | ((with_reducible refine Cl.is (Con.dt hst (Tryz.spanIn _ _ _ _)) ?_); conv => whnf) | ((with_reducible refine (?_ : Cl _ 99 _ _ _ _)); (refine Cl.is (Con.df hmt (Tryz.slContains _ _ ys _ (by (omega)) (by ((repeat ((refine Rd.own 2 rfl ?_); (assumption))); done)) _ [_] (fun s : Slt => decide (meetP (slP s) (slP (xs.getD k slE.d)))) (fun o f t => Tryz.slNew1 _ _ _ _ _ _ _ _ _ ⟨0, rfl⟩))) ?_); conv => whnf))
            | ((with_reducible refine (?_ : Sm _ (Builtin.append_ _ _ _) _ _)); (((with_reducible apply (Sm.appAt (E := slE) (et := 44) Tryz.tysOk 3)); (focus rfl)); (rotate_left; (focus (exact Rd.ptc 0 rfl [_] rfl)); rotate_right; (focus rfl)); (focus rfl); (focus rfl); (focus rfl); (focus rfl); (focus rfl); (focus rfl); (focus ((simp only [List.length_append, List.length_cons, List.length_nil]); omega)); (intro _ _ _ _); conv => whnf)))
          all_goals (rename_i a3 c3 hc3 had3; exact ⟨k + 1, ys ++ [xs.getD k slE.d], (a3, c3), by kernel_rfl, by (refine FEnt.ent ?_; (repeat (first | exact FEnt.rfl | (refine FEnt.at 0 rfl ?_; (try simp only [List.eraseIdx_cons_zero, List.eraseIdx_cons_succ, List.eraseIdx_zero, List.tail_cons])) | (refine FEnt.at 3 rfl ?_; (try simp only [List.eraseIdx_cons_zero, List.eraseIdx_cons_succ, List.eraseIdx_zero, List.tail_cons])) | refine FEnt.drop ?_)); done), ⟨by omega, hsn.symm, hc3, had3, lt_step h5 ⟨hm, hall⟩⟩, by omega⟩)
      · have e2 : e = 2 := hE.uniq (.bad hf k hk h5 hm)
        subst e2
        by_cases ho : 1 ≤ (xs.getD k slE.d).1 ∧ (xs.getD k slE.d).1 ≤ 8
        · have hst : ¬ (isS (xs.getD k slE.d).2.1 (xs.getD k slE.d).2.2 ∧ (xs.getD k slE.d).2.2 ≤ n) := fun h => hm ⟨ho.1, ho.2, h.1.1, h.1.2, h.2⟩
          conv => whnf
          repeat' (first
            | (first | ((with_reducible refine Br.ff ?_); conv => whnf) | ((with_reducible refine Br.nf ?_); conv => whnf) | ((with_reducible refine Br.dt ?_ ?_); (focus (first | assumption | omega)); conv => whnf) | ((with_reducible refine Br.df ?_ ?_); (focus (first | assumption | omega)); conv => whnf))
            | ((with_reducible refine Nd.mk ?_ ?_); (focus (first | omega | rfl | assumption | (simp; done))); conv => whnf)
            | ((with_reducible refine Nc.go' (fun _ => ?_)); conv => whnf)
            | ((with_reducible refine Ix.ad ?_ ?_ ?_); (focus (exact Rd.ad (by assumption))); (focus (omega)); conv => whnf)
            | (refine Ld.at 0 rfl rfl ?_; conv => whnf)
            | (first | ((with_reducible apply LdN.rdk); (focus ((repeat (first | assumption | apply Rd.cons)); done)); (focus rfl); (focus rfl); (focus (omega)); conv => whnf) | (refine LdN.at 0 rfl (by first | exact Nat.le_of_ble_eq_true rfl | (simp; done)) ?_; conv => whnf))
            | (refine St.at 0 rfl (by first | exact Nat.le_of_ble_eq_true rfl | (simp; done)) rfl ?_; conv => whnf)
            | (first | ((with_reducible refine Cl.is (Tryz.slPlaces _ _ _ _) ?_); conv => whnf) | ((with_reducible refine Cl.is (Con.df hst (Tryz.spanIn _ _ _ _)) ?_); conv => whnf)))
          all_goals (refine Is.ent ?_ ?_; (focus (refine FEnt.ent ?_; (repeat (first | exact FEnt.rfl | refine FEnt.drop ?_)); done)); (exact Is.rfl))
        · conv => whnf
          repeat' (first
            | (first | ((with_reducible refine Br.tt ?_); conv => whnf) | ((with_reducible refine Br.ff ?_); conv => whnf) | ((with_reducible refine Br.dt ?_ ?_); (focus (first | assumption | omega)); conv => whnf))
            | ((with_reducible refine Nd.mk ?_ ?_); (focus (first | omega | rfl | assumption | (simp; done))); conv => whnf)
            | ((with_reducible refine Nc.go' (fun _ => ?_)); conv => whnf)
            | ((with_reducible refine Ix.ad ?_ ?_ ?_); (focus (exact Rd.ad (by assumption))); (focus (omega)); conv => whnf)
            | (refine Ld.at 0 rfl rfl ?_; conv => whnf)
            | ((with_reducible apply LdN.rdk); (focus ((repeat (first | assumption | apply Rd.cons)); done)); (focus rfl); (focus rfl); (focus (omega)); conv => whnf)
            | (refine St.at 0 rfl (by first | exact Nat.le_of_ble_eq_true rfl | (simp; done)) rfl ?_; conv => whnf)
            | ((with_reducible refine Br.ds (fun _ => ?_) (fun _ => ?_) ) <;> (conv => whnf)))
          all_goals first | (refine Is.ent ?_ ?_; (focus (refine FEnt.ent ?_; (repeat (first | exact FEnt.rfl | refine FEnt.drop ?_)); done)); (exact Is.rfl)) | (exfalso; omega)
    · have e : k = xs.length := by omega
      subst e
      exact (he (hE.uniq (.ok hf h5))).elim
  · have e2 : e = 2 := hE.uniq (.frame hf)
    subst e2
    refine con_of Tryz.tysOk Tryz.func68 rfl rfl ?_
    conv => whnf
    repeat' (first
      | ((with_reducible refine Br.nf ?_); conv => whnf)
      | ((with_reducible refine Cl.is (Con.df hf (Tryz.clkRight _ _)) ?_); conv => whnf))
    all_goals (refine Is.ent ?_ ?_; (focus (exact Ent.rfl)); (exact Is.rfl))
end Go.Proofs
