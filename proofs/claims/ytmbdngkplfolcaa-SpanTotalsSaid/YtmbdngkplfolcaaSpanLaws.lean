/- The spans' laws, as contracts. -/
import Derived.Test.YtmbdngkplfolcaaSpanI
namespace Go.Proofs
open Go.Eng
set_option linter.unusedVariables false
set_option maxRecDepth 100000
set_option maxHeartbeats 600000

theorem Try.spanMeetsLaw (f t g u n : Int) (L : List HP) : Con Try.prog 5 [spV f t, spV g u, .int .i64 n] L (Is (.bool true) L) := by
  by_cases hm : meetS f t g u
  · refine con_of Try.tysOk Try.func5 rfl rfl ?_
    conv => whnf
    repeat' (first
      | (first | ((with_reducible refine Br.tt ?_); conv => whnf) | ((with_reducible refine Br.ff ?_); conv => whnf) | ((with_reducible refine Br.nt ?_); conv => whnf) | ((with_reducible refine Br.dt ?_ ?_); (focus (first | assumption | omega)); conv => whnf) | ((with_reducible refine Br.eqt ?_ ?_); (focus (first | rfl | assumption)); conv => whnf) | ((with_reducible refine Br.ift ?_ ?_); (focus (first | exact Iff.rfl | (constructor <;> (intro hh; omega)))); conv => whnf) | ((with_reducible refine Br.yes ?_ ?_); (focus (simp; omega)); conv => whnf) | ((with_reducible refine Br.no ?_ ?_); (focus (simp; omega)); conv => whnf))
      | ((with_reducible refine Nd.mk ?_ ?_); (focus (first | omega | rfl | assumption | (simp; done))); conv => whnf)
      | ((with_reducible refine Nc.go' (fun b => ?_)); conv => whnf)
      | (refine Ld.at 2 rfl rfl ?_; conv => whnf)
      | (first | (refine LdN.at 0 rfl (by first | exact Nat.le_of_ble_eq_true rfl | (simp; done)) ?_; conv => whnf) | (refine LdN.at 1 rfl (by first | exact Nat.le_of_ble_eq_true rfl | (simp; done)) ?_; conv => whnf) | (refine LdN.at 2 rfl (by first | exact Nat.le_of_ble_eq_true rfl | (simp; done)) ?_; conv => whnf))
      | (refine St.at 0 rfl (by first | exact Nat.le_of_ble_eq_true rfl | (simp; done)) rfl ?_; conv => whnf)
      | ((with_reducible refine Dr.by (id := 5) Try.tysOk rfl [(0, 1), (1, 0), (2, 1), (3, 1), (4, 1), (5, 1), (6, 0), (7, 0), (8, 0), (10, 0), (13, 0), (9, 1), (11, 1), (12, 1), (14, 1), (15, 0), (16, 0), (17, 0), (19, 0), (21, 0), (18, 1), (20, 1), (22, 0), (23, 0), (24, 0), (26, 0), (25, 1), (27, 1), (28, 1), (29, 1), (30, 0), (31, 0), (33, 0), (32, 1), (34, 0), (35, 0), (36, 0), (37, 0), (38, 0)] ?_ ?_); (focus kernel_rfl); conv => whnf)
      | (first | ((with_reducible refine CD.is (fun M => Try.spanLive _) ?_); conv => whnf) | ((with_reducible refine CD.is (fun M => Try.spanIs _ _ _) ?_); conv => whnf) | ((with_reducible refine CD.is (fun M => Try.refIs _ _ _) ?_); conv => whnf) | ((with_reducible refine CD.is (fun M => Try.spanHolds _ _ _ _) ?_); conv => whnf) | ((with_reducible refine CD.is (fun M => Try.refHolds _ _ _ _) ?_); conv => whnf) | ((with_reducible refine CD.is (fun M => Try.spanIn _ _ _ _) ?_); conv => whnf))
      | (first | ((with_reducible refine Cl.is (Try.spanMeetT _ _ _ _ _ hm) ?_); conv => whnf) | ((with_reducible refine Cl.is (Try.refMeets _ _ _ _ _) ?_); conv => whnf) | ((with_reducible refine Cl.is (Try.refHolds _ _ _ _) ?_); conv => whnf))
      | ((with_reducible refine Br.ds (fun _ => ?_) (fun _ => ?_) ) <;> (conv => whnf)))
    all_goals (refine Is.ent (by (refine FEnt.ent ?_; (repeat (first | exact FEnt.rfl | refine FEnt.drop ?_)); done)) ?_; first | exact Is.rfl | (refine Is.ift ?_; constructor <;> (intro hh; omega)) | exact Is.bool (by simp; omega))
  · refine con_of Try.tysOk Try.func5 rfl rfl ?_
    conv => whnf
    repeat' (first
      | (first | ((with_reducible refine Br.tt ?_); conv => whnf) | ((with_reducible refine Br.ff ?_); conv => whnf) | ((with_reducible refine Br.nf ?_); conv => whnf) | ((with_reducible refine Br.dt ?_ ?_); (focus (first | assumption | omega)); conv => whnf) | ((with_reducible refine Br.ndf ?_ ?_); (focus (first | assumption | omega)); conv => whnf) | ((with_reducible refine Br.eqt ?_ ?_); (focus (first | rfl | assumption)); conv => whnf) | ((with_reducible refine Br.ift ?_ ?_); (focus (first | exact Iff.rfl | (constructor <;> (intro hh; omega)))); conv => whnf) | ((with_reducible refine Br.yes ?_ ?_); (focus (simp; omega)); conv => whnf) | ((with_reducible refine Br.no ?_ ?_); (focus (simp; omega)); conv => whnf))
      | ((with_reducible refine Nd.mk ?_ ?_); (focus (first | omega | rfl | assumption | (simp; done))); conv => whnf)
      | ((with_reducible refine Nc.go' (fun b => ?_)); conv => whnf)
      | (refine Ld.at 2 rfl rfl ?_; conv => whnf)
      | (first | (refine LdN.at 0 rfl (by first | exact Nat.le_of_ble_eq_true rfl | (simp; done)) ?_; conv => whnf) | (refine LdN.at 1 rfl (by first | exact Nat.le_of_ble_eq_true rfl | (simp; done)) ?_; conv => whnf) | (refine LdN.at 2 rfl (by first | exact Nat.le_of_ble_eq_true rfl | (simp; done)) ?_; conv => whnf))
      | (refine St.at 0 rfl (by first | exact Nat.le_of_ble_eq_true rfl | (simp; done)) rfl ?_; conv => whnf)
      | ((with_reducible refine Dr.by (id := 5) Try.tysOk rfl [(0, 1), (1, 0), (2, 1), (3, 1), (4, 1), (5, 1), (6, 0), (7, 0), (8, 0), (10, 0), (13, 0), (9, 1), (11, 1), (12, 1), (14, 1), (15, 0), (16, 0), (17, 0), (19, 0), (21, 0), (18, 1), (20, 1), (22, 0), (23, 0), (24, 0), (26, 0), (25, 1), (27, 1), (28, 1), (29, 1), (30, 0), (31, 0), (33, 0), (32, 1), (34, 0), (35, 0), (36, 0), (37, 0), (38, 0)] ?_ ?_); (focus kernel_rfl); conv => whnf)
      | (first | ((with_reducible refine CD.is (fun M => Try.spanLive _) ?_); conv => whnf) | ((with_reducible refine CD.is (fun M => Try.spanIs _ _ _) ?_); conv => whnf) | ((with_reducible refine CD.is (fun M => Try.refIs _ _ _) ?_); conv => whnf) | ((with_reducible refine CD.is (fun M => Try.spanHolds _ _ _ _) ?_); conv => whnf) | ((with_reducible refine CD.is (fun M => Try.refHolds _ _ _ _) ?_); conv => whnf) | ((with_reducible refine CD.is (fun M => Try.spanIn _ _ _ _) ?_); conv => whnf))
      | (first | ((with_reducible refine Cl.is (Try.spanMeetF _ _ _ _ _ hm) ?_); conv => whnf) | ((with_reducible refine Cl.is (Try.refMeets _ _ _ _ _) ?_); conv => whnf) | ((with_reducible refine Cl.is (Try.refHolds _ _ _ _) ?_); conv => whnf))
      | ((with_reducible refine Br.ds (fun _ => ?_) (fun _ => ?_) ) <;> (conv => whnf)))
    all_goals (refine Is.ent (by (refine FEnt.ent ?_; (repeat (first | exact FEnt.rfl | refine FEnt.drop ?_)); done)) ?_; first | exact Is.rfl | (refine Is.ift ?_; constructor <;> (intro hh; omega)) | exact Is.bool (by simp; omega))

theorem Try.spanSortsLaw (a : Option Addr) (c : Nat) (xs : List Sp) (L : List HP) (hc : xs.length ≤ c) (hm : c ≤ 9223372036854775807) (hr : Rd spE L a xs) : Con Try.prog 3 [.slice a xs.length c] L (Is (.bool true) L) := by
  have hl := sortF_len (xs.take (min (xs.length : Int) 60).toNat)
  rw [List.length_take] at hl
  refine con_of Try.tysOk Try.func3 rfl rfl ?_
  conv => whnf
  repeat' (first
    | ((with_reducible refine Br.tt ?_); conv => whnf)
    | ((with_reducible refine Sub.pre ?_ rfl ?_ ?_ ?_); (focus (first | exact Or.inl rfl | exact Or.inr ⟨_, rfl⟩)); (focus (omega)); (focus (omega)); conv => whnf)
    | (first | ((with_reducible refine Cl.is (Try.spanLive _) ?_); conv => whnf) | ((with_reducible refine Cl.new (Try.spanSorted _ _ (xs.take (min (xs.length : Int) 60).toNat) _ (by (simp only [List.length_set, List.length_append, List.length_take, List.length_drop, List.length_cons, List.length_nil] at *; omega)) (by ((repeat (first | assumption | refine Rd.take ?_ _)); done))) (fun _ _ _ _ => ?_)); conv => whnf) | ((with_reducible refine Cl.new (Try.refSorted _ _ (xs.take (min (xs.length : Int) 60).toNat) _ (by (simp only [List.length_set, List.length_append, List.length_take, List.length_drop, List.length_cons, List.length_nil] at *; omega)) (by ((repeat (first | assumption | apply Rd.cons | refine Rd.take ?_ _)); done))) (fun _ _ _ _ => ?_)); conv => whnf) | ((with_reducible refine Cl.is (Con.dt rfl (Try.refSame _ _ _ _ _ _ _ (by omega) (by ((repeat ((refine Rd.own 1 rfl ?_); (assumption))); done)) (by ((repeat ((refine Rd.own 0 rfl ?_); (assumption))); done)))) ?_); conv => whnf)))
  all_goals (refine Is.ent ?_ ?_; (focus (refine FEnt.ent ?_; (repeat (first | exact FEnt.rfl | refine FEnt.drop ?_)); done)); (exact Is.rfl))

theorem same_rev {xs : List Sp} {n : Int} : inS xs.reverse n ↔ inS xs n := inS_perm (List.reverse_perm xs)
theorem Try.spanMergesLaw (a : Option Addr) (c : Nat) (xs : List Sp) (L : List HP) (hc : xs.length ≤ c) (hm : c ≤ 9223372036854775807) (hr : Rd spE L a xs) : Con Try.prog 4 [.slice a xs.length c] L (Is (.bool true) L) := by
  by_cases hs : smallS xs
  · have hml := mergeF_len xs
    have hmm := merge_merge xs
    have e1 : runF 300 (fun m => inS xs m ↔ true = true) = mergeF xs := runF_eq ⟨(merge_inv xs).1, fun m => ((merge_inv xs).2 m).trans ⟨fun h => ⟨by obtain ⟨x, _, hx⟩ := h; omega, by obtain ⟨x, hx, hh⟩ := h; have := hs.2 x hx; omega, ⟨fun _ => rfl, fun _ => h⟩⟩, fun h => h.2.2.2 rfl⟩⟩
    refine con_of Try.tysOk Try.func4 rfl rfl ?_
    conv => whnf
    repeat' (first
      | ((with_reducible refine Br.nt ?_); conv => whnf)
      | ((with_reducible refine Ar.i64 ?_ ?_); (focus omega); conv => whnf)
      | ((with_reducible refine Nc.go' (fun b => ?_)); conv => whnf)
      | (first | ((with_reducible refine Cl.is (Con.dt hs (Try.refSmall _ _ _ _ (by ((repeat (assumption)); done)))) ?_); conv => whnf) | ((with_reducible refine Cl.new (Try.spanMerge _ _ xs _ (by omega) (by ((repeat (assumption)); done))) (fun _ _ _ _ => ?_)); conv => whnf)))
    rename_i a1 c1 hc1 had1
    conv => whnf
    refine Lp.by4 Try.tysOk [5, 4] (fun (k : Nat) (out : List Sp) (a2 : Option Addr) (c2 : Nat) => [.int .i64 ((k : Int) - 1), .slice a2 out.length c2]) (fun k out a2 c2 => own spE 29 a2 c2 out :: own spE 29 a1 c1 (mergeF xs) :: L) (fun k out a2 c2 => k ≤ xs.length ∧ out = (xs.drop k).reverse ∧ Ad a2 out.length ∧ out.length ≤ c2) (fun k out a2 c2 => k) (xs.length) ([]) (some ⟨b, 0, none⟩) (0) (by kernel_rfl) (by (refine FEnt.ent ?_; (repeat (first | exact FEnt.rfl | (refine FEnt.own0 0 rfl ?_; (try simp only [List.eraseIdx_cons_zero, List.eraseIdx_cons_succ, List.eraseIdx_zero, List.tail_cons])))); done)) (⟨by omega, by simp, fun h => rfl, by simp⟩) ?_
    rintro k out a2 c2 ⟨h1, h2, h3, h4⟩
    conv => whnf
    repeat (intro _; conv => whnf)
    have hol : out.length ≤ 30 := by rw [h2]; simp; omega
    by_cases hk : 0 < k
    · have ej : ((k : Int) - 1) = ((k - 1 : Nat) : Int) := by omega
      have hz : (xs.drop (k - 1)).reverse = out ++ [xs.getD (k - 1) spE.d] := by
        rw [h2, List.drop_eq_getElem_cons (show k - 1 < xs.length by omega), List.reverse_cons, show k - 1 + 1 = k by omega]
        congr 2
        simp [List.getD, show k - 1 < xs.length from by omega]
      rw [ej]
      conv => whnf
      repeat' (first
        | ((with_reducible refine Br.dt ?_ ?_); (focus (first | assumption | omega)); conv => whnf)
        | ((with_reducible refine Ar.i64 ?_ ?_); (focus omega); conv => whnf)
        | ((with_reducible refine Nc.go' (fun b => ?_)); conv => whnf)
        | ((with_reducible refine Ix.ad ?_ ?_ ?_); (focus (exact Rd.ad (by assumption))); (focus (omega)); conv => whnf)
        | ((with_reducible apply LdN.rdk); (focus ((repeat (first | assumption | apply Rd.cons)); done)); (focus rfl); (focus rfl); (focus (omega)); conv => whnf)
        | (((with_reducible apply (Sm.appAt (E := spE) (et := 29) Try.tysOk 1)); (focus rfl)); (rotate_left; (focus (exact Rd.ptc 0 rfl [_] rfl)); rotate_right; (focus rfl)); (focus rfl); (focus rfl); (focus rfl); (focus rfl); (focus rfl); (focus rfl); (focus (simp only [List.length_set, List.length_append, List.length_take, List.length_drop, List.length_cons, List.length_nil] at *; omega)); (intro _ _ _ _); conv => whnf))
      rename_i a3 c3 hc3 had3
      refine ⟨k - 1, _, a3, c3, by kernel_rfl, by (refine FEnt.ent ?_; (repeat (first | exact FEnt.rfl | (refine FEnt.at 0 rfl ?_; (try simp only [List.eraseIdx_cons_zero, List.eraseIdx_cons_succ, List.eraseIdx_zero, List.tail_cons])) | (refine FEnt.at 1 rfl ?_; (try simp only [List.eraseIdx_cons_zero, List.eraseIdx_cons_succ, List.eraseIdx_zero, List.tail_cons])) | refine FEnt.drop ?_)); done), ⟨by omega, hz.symm, had3, hc3⟩, by omega⟩
    · have hk0 : k = 0 := by omega
      subst hk0
      rw [List.drop_zero] at h2
      have e2 : mergeF out = mergeF xs := mergeF_same fun n => by rw [h2]; exact same_rev
      have hb : ¬ (0 ≤ ((0 : Nat) : Int) - 1) := by omega
      conv => whnf
      repeat' (first
        | (first | ((with_reducible refine Br.tt ?_); conv => whnf) | ((with_reducible refine Br.df ?_ ?_); (focus (first | assumption | omega)); conv => whnf))
        | (first | ((with_reducible refine Cl.is (Try.spanLive _) ?_); conv => whnf) | ((with_reducible refine Cl.new (e1 ▸ Try.refRuns 300 (by omega) _ _ xs true _ (by omega) (by ((repeat (first | assumption | apply Rd.cons)); done))) (fun _ _ _ _ => ?_)); conv => whnf) | ((with_reducible refine Cl.is (Con.dt rfl (Try.refSame _ _ (mergeF xs) _ _ (mergeF xs) _ (by omega) (by ((repeat ((first | refine Rd.own 0 rfl ?_ | refine Rd.own 2 rfl ?_); (assumption))); done)) (by ((repeat ((first | refine Rd.own 0 rfl ?_ | refine Rd.own 3 rfl ?_ | refine Rd.own 4 rfl ?_); (assumption))); done)))) ?_); conv => whnf) | ((with_reducible refine Cl.new (hmm ▸ Try.spanMerge _ _ (mergeF xs) _ (by omega) (by ((repeat (first | ((refine Rd.own 2 rfl ?_); (assumption)) | apply Rd.cons)); done))) (fun _ _ _ _ => ?_)); conv => whnf) | ((with_reducible refine Cl.new (e2 ▸ Try.spanMerge _ _ out _ (by omega) (by ((repeat ((refine Rd.own 2 rfl ?_); (assumption))); done))) (fun _ _ _ _ => ?_)); conv => whnf)))
      all_goals (refine Is.ent ?_ ?_; (focus (refine FEnt.ent ?_; (repeat (first | exact FEnt.rfl | refine FEnt.drop ?_)); done)); (exact Is.rfl))
  · refine con_of Try.tysOk Try.func4 rfl rfl ?_
    conv => whnf
    repeat' (first
      | ((with_reducible refine Br.nf ?_); conv => whnf)
      | (first | ((with_reducible refine Cl.is (Con.df hs (Try.refSmall _ _ _ _ (by ((repeat (assumption)); done)))) ?_); conv => whnf) | ((with_reducible refine Cl.is (Try.spanLive _) ?_); conv => whnf)))
    all_goals (refine Is.ent ?_ ?_; (focus (exact Ent.rfl)); (exact Is.rfl))

theorem pairs_neg {xs : List Sp} (h : xs.Pairwise fun a b => ¬ meetP a b) : (firstF xs).1 < 0 := firstF_neg.2 fun m hm j hj => by
  have := List.pairwise_iff_getElem.1 h j m (by omega) hm hj
  simpa [List.getD, hm, show j < xs.length from by omega] using this
theorem Try.spanApartLaw (a : Option Addr) (c : Nat) (xs : List Sp) (L : List HP) (hc : xs.length ≤ c) (hm : c ≤ 9223372036854775807) (hr : Rd spE L a xs) : Con Try.prog 7 [.slice a xs.length c] L (Is (.bool true) L) := by
  refine con_of Try.tysOk Try.func7 rfl rfl ?_
  conv => whnf
  repeat' (first
    | ((with_reducible refine Nd.mk ?_ ?_); (focus (first | omega | rfl | assumption | (simp; done))); conv => whnf)
    | ((with_reducible refine Sub.pre ?_ rfl ?_ ?_ ?_); (focus (first | exact Or.inl rfl | exact Or.inr ⟨_, rfl⟩)); (focus (omega)); (focus (omega)); conv => whnf)
    | (first | ((with_reducible refine Cl.is (Try.spanFirst _ _ (xs.take (min (xs.length : Int) 60).toNat) _ (by (simp only [List.length_set, List.length_append, List.length_take, List.length_drop, List.length_cons, List.length_nil] at *; omega)) (by (simp only [List.length_set, List.length_append, List.length_take, List.length_drop, List.length_cons, List.length_nil] at *; omega)) (by ((repeat (first | assumption | refine Rd.take ?_ _)); done))) ?_); conv => whnf) | ((with_reducible refine Cl.is (Try.refFirst _ _ (xs.take (min (xs.length : Int) 60).toNat) _ (by (simp only [List.length_set, List.length_append, List.length_take, List.length_drop, List.length_cons, List.length_nil] at *; omega)) (by ((repeat (first | assumption | refine Rd.take ?_ _)); done))) ?_); conv => whnf)))
  generalize hys : xs.take (min (xs.length : Int) 60).toNat = ys at *
  have hr : Rd spE L a ys := by rw [← hys]; exact hr.take _
  have hl2 : ys.length ≤ 60 := by rw [← hys, List.length_take]; omega
  have hc2 : ys.length ≤ c := by rw [← hys, List.length_take]; omega
  conv => whnf
  refine Lp.by2 Try.tysOk [8, 7] (fun (k : Nat) (b : Bool) => [.int .i64 k, .bool b]) (fun k b => L) (fun k b => k ≤ ys.length ∧ (b = true ↔ ∀ i, i < k → isS (ys.getD i spE.d).1 (ys.getD i spE.d).2)) (fun k b => ys.length - k) (0) (true) (by kernel_rfl) (by (exact Ent.rfl)) (⟨by omega, by simp⟩) ?_
  rintro k b ⟨h1, h2⟩
  conv => whnf
  repeat (intro _; conv => whnf)
  by_cases hk : k < ys.length
  · cases b with
    | true =>
      have h2 := h2.1 rfl
      by_cases hi : isS (ys.getD k spE.d).1 (ys.getD k spE.d).2
      · conv => whnf
        repeat' (first
          | (first | ((with_reducible refine Br.tt ?_); conv => whnf) | ((with_reducible refine Br.dt ?_ ?_); (focus (first | assumption | omega)); conv => whnf))
          | ((with_reducible refine Ar.i64 ?_ ?_); (focus omega); conv => whnf)
          | ((with_reducible refine Ix.ad ?_ ?_ ?_); (focus (exact Rd.ad (by assumption))); (focus (omega)); conv => whnf)
          | ((with_reducible apply LdN.rdk); (focus ((repeat (assumption)); done)); (focus rfl); (focus rfl); (focus (omega)); conv => whnf)
          | ((with_reducible refine Cl.is (Con.dt hi (Try.refIs _ _ _)) ?_); conv => whnf))
        refine ⟨k + 1, true, by kernel_rfl, by (exact Ent.rfl), ⟨by omega, ⟨fun _ => lt_step h2 hi, fun _ => rfl⟩⟩, by omega⟩
      · conv => whnf
        repeat' (first
          | (first | ((with_reducible refine Br.tt ?_); conv => whnf) | ((with_reducible refine Br.dt ?_ ?_); (focus (first | assumption | omega)); conv => whnf))
          | ((with_reducible refine Ar.i64 ?_ ?_); (focus omega); conv => whnf)
          | ((with_reducible refine Ix.ad ?_ ?_ ?_); (focus (exact Rd.ad (by assumption))); (focus (omega)); conv => whnf)
          | ((with_reducible apply LdN.rdk); (focus ((repeat (assumption)); done)); (focus rfl); (focus rfl); (focus (omega)); conv => whnf)
          | ((with_reducible refine Cl.is (Con.df hi (Try.refIs _ _ _)) ?_); conv => whnf))
        refine ⟨k + 1, false, by kernel_rfl, by (exact Ent.rfl), ⟨by omega, ⟨(fun h => by cases h), fun h => (hi (h k (by omega))).elim⟩⟩, by omega⟩
    | false =>
      conv => whnf
      repeat' (first
        | (first | ((with_reducible refine Br.ff ?_); conv => whnf) | ((with_reducible refine Br.dt ?_ ?_); (focus (first | assumption | omega)); conv => whnf))
        | ((with_reducible refine Ar.i64 ?_ ?_); (focus omega); conv => whnf))
      refine ⟨k + 1, false, by kernel_rfl, by (exact Ent.rfl), ⟨by omega, ⟨(fun h => by cases h), fun h => h2.2 fun i hi => h i (by omega)⟩⟩, by omega⟩
  · have hall : b = true ↔ ∀ x ∈ ys, isS x.1 x.2 := h2.trans ((all_iff spE.d).trans ⟨fun h i hi => h i (by omega), fun h i hi => h i (by omega)⟩).symm
    cases b with
    | true =>
      have hap : apartS ys ↔ (firstF ys).1 < 0 := ⟨fun h => h.1, fun h => ⟨h, hall.1 rfl⟩⟩
      conv => whnf
      repeat' (first
        | (first | ((with_reducible refine Br.tt ?_); conv => whnf) | ((with_reducible refine Br.dt ?_ ?_); (focus (first | assumption | omega)); conv => whnf) | ((with_reducible refine Br.df ?_ ?_); (focus (first | assumption | omega)); conv => whnf))
        | (first | ((with_reducible refine Cl.is (Try.spanLive _) ?_); conv => whnf) | ((with_reducible refine Cl.is (Try.spanApart _ _ ys _ (by (omega)) (by (omega)) (by ((repeat (assumption)); done))) ?_); conv => whnf)))
      all_goals (refine Is.ent (by (exact Ent.rfl)) (Is.ift hap))
    | false =>
      have hap : ¬ apartS ys := fun h => by cases hall.2 h.2
      conv => whnf
      repeat' (first
        | (first | ((with_reducible refine Br.tt ?_); conv => whnf) | ((with_reducible refine Br.ff ?_); conv => whnf) | ((with_reducible refine Br.dt ?_ ?_); (focus (first | assumption | omega)); conv => whnf) | ((with_reducible refine Br.df ?_ ?_); (focus (first | assumption | omega)); conv => whnf))
        | (first | ((with_reducible refine Cl.is (Try.spanLive _) ?_); conv => whnf) | ((with_reducible refine Cl.is (Con.df hap (Try.spanApart _ _ ys _ (by (omega)) (by (omega)) (by ((repeat (assumption)); done)))) ?_); conv => whnf)))
      all_goals (refine Is.ent ?_ ?_; (focus (exact Ent.rfl)); (exact Is.rfl))

/-- the places of those that are spans -/
def sumI (xs : List Sp) : Int := (xs.map fun s => if isS s.1 s.2 then s.2 - s.1 else 0).sum
theorem sumI_take {xs : List Sp} {k : Nat} (h : k < xs.length) : sumI (xs.take (k + 1)) = sumI (xs.take k) + (if isS (xs.getD k spE.d).1 (xs.getD k spE.d).2 then (xs.getD k spE.d).2 - (xs.getD k spE.d).1 else 0) := by
  rw [take_snoc h]; simp [sumI]
theorem sumI_bd {xs : List Sp} (h : ∀ x ∈ xs, x.2 ≤ 300) : 0 ≤ sumI xs ∧ sumI xs ≤ 300 * xs.length := by
  induction xs with
  | nil => simp [sumI]
  | cons y ys ih =>
    have h1 := h y (by simp)
    have h2 := ih fun z hz => h z (by simp [hz])
    have e : sumI (y :: ys) = (if isS y.1 y.2 then y.2 - y.1 else 0) + sumI ys := by simp [sumI]
    have e2 : ((y :: ys).length : Int) = ys.length + 1 := by simp
    rw [e, e2]
    split <;> omega
theorem sumI_all {xs : List Sp} (h : ∀ x ∈ xs, isS x.1 x.2) : sumI xs = totalS xs := by
  induction xs with
  | nil => rfl
  | cons y ys ih =>
    have e : sumI (y :: ys) = (if isS y.1 y.2 then y.2 - y.1 else 0) + sumI ys := by simp [sumI]
    have e2 : totalS (y :: ys) = (y.2 - y.1) + totalS ys := by simp [totalS]
    rw [e, e2, if_pos (h y (by simp)), ih fun z hz => h z (by simp [hz])]
theorem Try.spanTotalsLaw (a : Option Addr) (c : Nat) (xs : List Sp) (L : List HP) (hc : xs.length ≤ c) (hm : c ≤ 9223372036854775807) (hr : Rd spE L a xs) : Con Try.prog 8 [.slice a xs.length c] L (Is (.bool true) L) := by
  by_cases hs : smallS xs
  · have ht : totalS (mergeF xs) = cntF (inS xs) 300 := total_merge hs.2
    have hap : apartS xs → sumI xs = cntF (inS xs) 300 := fun h => by
      rw [sumI_all h.2]
      exact total_cnt (fun y hy => ⟨h.2 y hy, hs.2 y hy⟩) (apart_pairs h)
    have hsl := hs.1
    refine con_of Try.tysOk Try.func8 rfl rfl ?_
    conv => whnf
    repeat' (first
      | ((with_reducible refine Br.nt ?_); conv => whnf)
      | ((with_reducible refine Cl.is (Con.dt hs (Try.refSmall _ _ _ _ (by ((repeat (assumption)); done)))) ?_); conv => whnf))
    conv => whnf
    refine Lp.by Try.tysOk [5, 3] (fun (k : Nat) => [.int .i64 k, .int .i64 (cntF (inS xs) k)]) (fun k => L) (fun k => k ≤ 300) (fun k => 300 - k) (0) (by kernel_rfl) (by (exact Ent.rfl)) (by omega) ?_
    rintro k h1
    conv => whnf
    repeat (intro _; conv => whnf)
    have hcb := cntF_bd (inS xs) k
    by_cases hk : k < 300
    · by_cases hin : inS xs k
      · have e : cntF (inS xs) (k + 1) = cntF (inS xs) k + 1 := by simp only [cntF]; rw [if_pos hin]
        conv => whnf
        repeat' (first
          | (first | ((with_reducible refine Br.tt ?_); conv => whnf) | ((with_reducible refine Br.dt ?_ ?_); (focus (first | assumption | omega)); conv => whnf))
          | ((with_reducible refine Ar.i64 ?_ ?_); (focus omega); conv => whnf)
          | ((with_reducible refine Cl.is (Con.dt hin (Try.refIn _ _ xs _ _ (by omega) (by ((repeat (assumption)); done)))) ?_); conv => whnf))
        rw [← e]
        refine ⟨k + 1, by kernel_rfl, by (exact Ent.rfl), by omega, by omega⟩
      · have e : cntF (inS xs) (k + 1) = cntF (inS xs) k := by simp only [cntF]; rw [if_neg hin]; omega
        conv => whnf
        repeat' (first
          | (first | ((with_reducible refine Br.ff ?_); conv => whnf) | ((with_reducible refine Br.dt ?_ ?_); (focus (first | assumption | omega)); conv => whnf))
          | ((with_reducible refine Ar.i64 ?_ ?_); (focus omega); conv => whnf)
          | ((with_reducible refine Cl.is (Con.df hin (Try.refIn _ _ xs _ _ (by omega) (by ((repeat (assumption)); done)))) ?_); conv => whnf))
        rw [← e]
        refine ⟨k + 1, by kernel_rfl, by (exact Ent.rfl), by omega, by omega⟩
    · have hk : k = 300 := by omega
      subst hk
      conv => whnf
      repeat' ((with_reducible refine Br.df ?_ ?_); (focus (first | assumption | omega)); conv => whnf)
      generalize hcnt : cntF (inS xs) 300 = C at *
      conv => whnf
      refine Lp.by Try.tysOk [6, 4] (fun (k : Nat) => [.int .i64 k, .int .i64 (sumI (xs.take k))]) (fun k => L) (fun k => k ≤ xs.length) (fun k => xs.length - k) (0) (by kernel_rfl) (by (exact Ent.rfl)) (by omega) ?_
      rintro k h2
      conv => whnf
      repeat (intro _; conv => whnf)
      have hsb := sumI_bd (xs := xs.take k) fun x hx => hs.2 x (List.mem_of_mem_take hx)
      rw [List.length_take] at hsb
      by_cases hk : k < xs.length
      · have e := sumI_take hk
        have hb := hs.2 _ (getD_mem (d := spE.d) hk)
        by_cases hi : isS (xs.getD k spE.d).1 (xs.getD k spE.d).2
        · rw [if_pos hi] at e
          conv => whnf
          repeat' (first
            | (first | ((with_reducible refine Br.tt ?_); conv => whnf) | ((with_reducible refine Br.dt ?_ ?_); (focus (first | assumption | omega)); conv => whnf))
            | ((with_reducible refine Ar.i64 ?_ ?_); (focus omega); conv => whnf)
            | ((with_reducible refine Ix.ad ?_ ?_ ?_); (focus (exact Rd.ad (by assumption))); (focus (omega)); conv => whnf)
            | ((first | (with_reducible apply Ld.rdk) | (with_reducible apply Ld.rdk0)); (focus ((repeat (assumption)); done)); (focus rfl); (focus (omega)); (focus rfl); conv => whnf)
            | ((with_reducible apply LdN.rdk); (focus ((repeat (assumption)); done)); (focus rfl); (focus rfl); (focus (omega)); conv => whnf)
            | ((with_reducible refine Dr.by (id := 13) Try.tysOk rfl [(0, 0), (1, 0), (2, 0), (3, 0), (4, 0), (6, 0), (7, 0), (8, 0), (9, 0), (5, 1), (10, 1), (11, 0), (12, 0), (13, 0)] ?_ ?_); (focus kernel_rfl); conv => whnf)
            | ((with_reducible refine Cl.is (Con.dt hi (Try.refIs _ _ _)) ?_); conv => whnf))
          rw [← e]
          refine ⟨k + 1, by kernel_rfl, by (exact Ent.rfl), by omega, by omega⟩
        · rw [if_neg hi, Int.add_zero] at e
          conv => whnf
          repeat' (first
            | (first | ((with_reducible refine Br.ff ?_); conv => whnf) | ((with_reducible refine Br.dt ?_ ?_); (focus (first | assumption | omega)); conv => whnf))
            | ((with_reducible refine Ar.i64 ?_ ?_); (focus omega); conv => whnf)
            | ((with_reducible refine Ix.ad ?_ ?_ ?_); (focus (exact Rd.ad (by assumption))); (focus (omega)); conv => whnf)
            | ((with_reducible apply LdN.rdk); (focus ((repeat (assumption)); done)); (focus rfl); (focus rfl); (focus (omega)); conv => whnf)
            | ((with_reducible refine Cl.is (Con.df hi (Try.refIs _ _ _)) ?_); conv => whnf))
          rw [← e]
          refine ⟨k + 1, by kernel_rfl, by (exact Ent.rfl), by omega, by omega⟩
      · have e : k = xs.length := by omega
        subst e
        rw [List.take_length]
        by_cases hapx : apartS xs
        · have hap := hap hapx
          conv => whnf
          repeat' (first
            | (first | ((with_reducible refine Br.tt ?_); conv => whnf) | ((with_reducible refine Br.ff ?_); conv => whnf) | ((with_reducible refine Br.nt ?_); conv => whnf) | ((with_reducible refine Br.dt ?_ ?_); (focus (first | assumption | omega)); conv => whnf) | ((with_reducible refine Br.df ?_ ?_); (focus (first | assumption | omega)); conv => whnf))
            | (first | ((with_reducible refine Cl.is (Try.spanLive _) ?_); conv => whnf) | ((with_reducible refine Cl.is (Try.spanTotal _ _ xs _ (by omega) (fun x hx => Int.le_trans (hs.2 x hx) (by omega)) (by ((repeat (assumption)); done))) ?_); conv => whnf) | ((with_reducible refine Cl.is (Con.dt hapx (Try.spanApart _ _ xs _ (by omega) (by omega) (by ((repeat (assumption)); done)))) ?_); conv => whnf)))
          all_goals (refine Is.ent (by (exact Ent.rfl)) ?_; first | exact Is.rfl | exact Is.bool (decide_eq_true hap))
        · conv => whnf
          repeat' (first
            | (first | ((with_reducible refine Br.tt ?_); conv => whnf) | ((with_reducible refine Br.nf ?_); conv => whnf) | ((with_reducible refine Br.dt ?_ ?_); (focus (first | assumption | omega)); conv => whnf) | ((with_reducible refine Br.df ?_ ?_); (focus (first | assumption | omega)); conv => whnf))
            | (first | ((with_reducible refine Cl.is (Try.spanLive _) ?_); conv => whnf) | ((with_reducible refine Cl.is (Try.spanTotal _ _ xs _ (by omega) (fun x hx => Int.le_trans (hs.2 x hx) (by omega)) (by ((repeat (assumption)); done))) ?_); conv => whnf) | ((with_reducible refine Cl.is (Con.df hapx (Try.spanApart _ _ xs _ (by omega) (by omega) (by ((repeat (assumption)); done)))) ?_); conv => whnf)))
          all_goals (refine Is.ent ?_ ?_; (focus (exact Ent.rfl)); (exact Is.rfl))
  · refine con_of Try.tysOk Try.func8 rfl rfl ?_
    conv => whnf
    repeat' (first
      | ((with_reducible refine Br.nf ?_); conv => whnf)
      | (first | ((with_reducible refine Cl.is (Con.df hs (Try.refSmall _ _ _ _ (by ((repeat (assumption)); done)))) ?_); conv => whnf) | ((with_reducible refine Cl.is (Try.spanLive _) ?_); conv => whnf)))
    all_goals (refine Is.ent ?_ ?_; (focus (exact Ent.rfl)); (exact Is.rfl))
end Go.Proofs
