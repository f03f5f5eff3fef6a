/- Spans: the document's rows, and the gaps. -/
import Derived.Test.YtmbdngkplfolcaaSpanF
import Derived.Test.YtmbdngkplfolcaaSpanG
namespace Go.Proofs
open Go.Eng
set_option linter.unusedVariables false
set_option maxRecDepth 100000
set_option maxHeartbeats 600000

theorem Try.refSorted (a : Option Addr) (c : Nat) (xs : List Sp) (L : List HP) (hl : xs.length ≤ 1000000) (hr : Rd spE L a xs) :
    Con Try.prog 12 [.slice a xs.length c] L (New spE 29 (sortF xs) L) := by
  refine con_of Try.tysOk Try.func12 rfl rfl ?_
  conv => whnf
  refine Nc.go' (fun b0 => ?_)
  conv => whnf
  refine Lp.by4 Try.tysOk [4, 3] (fun (k : Nat) (out : List Sp) (a2 : Option Addr) (c2 : Nat) => [.int .i64 k, .slice a2 out.length c2]) (fun k out a2 c2 => own spE 29 a2 c2 out :: L) (fun k out a2 c2 => k ≤ xs.length ∧ Sorted (xs.take k) out ∧ Ad a2 out.length ∧ out.length ≤ c2) (fun k out a2 c2 => xs.length - k) (0) ([]) (some ⟨b0, 0, none⟩) (0) (by kernel_rfl) (by (refine FEnt.ent ?_; (repeat (first | exact FEnt.rfl | (refine FEnt.own0 0 rfl ?_; (try simp only [List.eraseIdx_cons_zero, List.eraseIdx_cons_succ, List.eraseIdx_zero, List.tail_cons])))); done)) (⟨by omega, ⟨.refl _, List.Pairwise.nil⟩, fun h => rfl, by simp⟩) ?_
  rintro k out a2 c2 ⟨h1, h2, h3, h4⟩
  conv => whnf
  repeat (intro _; conv => whnf)
  have hol := h2.1.length_eq
  rw [List.length_take] at hol
  by_cases hk : k < xs.length
  · conv => whnf
    repeat' ((with_reducible refine Br.dt ?_ ?_); (focus (first | assumption | omega)); conv => whnf)
    conv => whnf
    refine Lp.by Try.tysOk [5] (fun j : Nat => [.int .i64 j]) (fun j => own spE 29 a2 c2 out :: L) (fun j => j ≤ out.length ∧ ∀ i, j ≤ i → i < out.length → ltS (xs.getD k spE.d) (out.getD i spE.d)) (fun j => j) (out.length) (by kernel_rfl) (by (exact Ent.rfl)) (⟨by omega, fun i h1 h2 => by omega⟩) ?_
    rintro j ⟨g1, g2⟩
    conv => whnf
    repeat (intro _; conv => whnf)
    by_cases hj : 0 < j
    · by_cases hlt : ltS (xs.getD k spE.d) (out.getD (j - 1) spE.d)
      · have ej : ((j : Int) - 1) = ((j - 1 : Nat) : Int) := by omega
        conv => whnf
        repeat' (first
          | (first | ((with_reducible refine Br.tt ?_); conv => whnf) | ((with_reducible refine Br.dt ?_ ?_); (focus (first | assumption | omega)); conv => whnf))
          | ((with_reducible refine Ar.i64 ?_ ?_); (focus omega); conv => whnf)
          | ((with_reducible refine Ix.ad ?_ ?_ ?_); (focus (first | assumption | exact Rd.ad (by assumption))); (focus (omega)); conv => whnf)
          | ((first | (with_reducible apply LdN.rdk) | apply LdN.rd); (focus ((repeat (first | assumption | ((refine Rd.own 0 rfl ?_); (assumption)) | apply Rd.cons)); done)); (focus rfl); (focus rfl); (focus (omega)); conv => whnf)
          | ((with_reducible refine Dr.by (id := 6) Try.tysOk rfl [(0, 0), (1, 0), (2, 0), (3, 0), (4, 0), (5, 0), (7, 0), (8, 0), (9, 0), (10, 0), (6, 1), (11, 1), (12, 1), (13, 0)] ?_ ?_); (focus kernel_rfl); conv => whnf)
          | ((with_reducible refine CD.is (fun M => Con.dt hlt (Try.refLess _ _ _ _ _)) ?_); conv => whnf)
          | ((rw [ej]); conv => whnf))
        refine ⟨j - 1, by kernel_rfl, by (exact Ent.rfl), ⟨by omega, fun i i1 i2 => by by_cases e : i = j - 1; (rw [e]; exact hlt); exact g2 i (by omega) i2⟩, by omega⟩
      · have ej : ((j : Int) - 1) = ((j - 1 : Nat) : Int) := by omega
        conv => whnf
        repeat' (first
          | (first | ((with_reducible refine Br.tt ?_); conv => whnf) | ((with_reducible refine Br.ff ?_); conv => whnf) | ((with_reducible refine Br.dt ?_ ?_); (focus (first | assumption | omega)); conv => whnf))
          | ((with_reducible refine Ar.i64 ?_ ?_); (focus omega); conv => whnf)
          | ((with_reducible refine Nc.go' (fun b => ?_)); conv => whnf)
          | ((with_reducible refine Ix.ad ?_ ?_ ?_); (focus (first | assumption | exact Rd.ad (by assumption))); (focus (omega)); conv => whnf)
          | (first | ((with_reducible refine Sub.pre ?_ rfl ?_ ?_ ?_); (focus (first | exact Or.inl rfl | exact Or.inr ⟨_, rfl⟩)); (focus (omega)); (focus (omega)); conv => whnf) | ((with_reducible refine Sub.suf rfl ?_ ?_ ?_); (focus (omega)); (focus (omega)); conv => whnf))
          | ((first | (with_reducible apply LdN.rdk) | apply LdN.rd); (focus ((repeat (first | assumption | ((refine Rd.own 0 rfl ?_); (assumption)) | apply Rd.cons)); done)); (focus rfl); (focus rfl); (focus (omega)); conv => whnf)
          | ((with_reducible refine Dr.by (id := 6) Try.tysOk rfl [(0, 0), (1, 0), (2, 0), (3, 0), (4, 0), (5, 0), (7, 0), (8, 0), (9, 0), (10, 0), (6, 1), (11, 1), (12, 1), (13, 0)] ?_ ?_); (focus kernel_rfl); conv => whnf)
          | ((with_reducible refine CD.is (fun M => Con.df hlt (Try.refLess _ _ _ _ _)) ?_); conv => whnf)
          | (first | ((first | ((with_reducible apply (Sm.appAt (E := spE) (et := 29) Try.tysOk 0)); (focus rfl)) | ((with_reducible apply (Sm.appAt (E := spE) (et := 29) Try.tysOk 1)); (focus rfl))); (first | ((focus rfl); (focus ((repeat (first | ((refine Rd.own 2 rfl ?_); (assumption)) | refine Rd.drop ?_ _ _ (by (omega)))); done))) | (rotate_left; (focus (exact Rd.ptc 0 rfl [_] rfl)); rotate_right; (focus rfl))); (focus rfl); (focus rfl); (focus rfl); (focus rfl); (focus rfl); (focus rfl); (focus (simp only [List.length_set, List.length_append, List.length_take, List.length_drop, List.length_cons, List.length_nil] at *; omega)); (intro _ _ _ _); conv => whnf) | (((with_reducible_and_instances apply (Sm.appNew (E := spE) (et := 29) Try.tysOk 0)); (focus rfl)); ((focus rfl); (focus ((repeat (first | ((refine Rd.own 1 rfl ?_); (assumption)) | refine Rd.take ?_ _)); done))); (focus rfl); (focus rfl); (focus rfl); (focus rfl); (focus rfl); (focus (simp only [List.length_set, List.length_append, List.length_take, List.length_drop, List.length_cons, List.length_nil] at *; omega)); (intro _ _ _ _); conv => whnf))
          | ((rw [ej]); conv => whnf))
        rename_i a3 c3 hc3 had3
        have hz := ins_step h2 g1 g2 (fun _ => hlt)
        rw [← take_snoc hk] at hz
        refine ⟨k + 1, _, a3, c3, by kernel_rfl, by (refine FEnt.ent ?_; (repeat (first | exact FEnt.rfl | (refine FEnt.at 0 rfl ?_; (try simp only [List.eraseIdx_cons_zero, List.eraseIdx_cons_succ, List.eraseIdx_zero, List.tail_cons])) | refine FEnt.drop ?_)); done), ⟨by omega, hz, had3, hc3⟩, by omega⟩
    · conv => whnf
      repeat' (first
        | (first | ((with_reducible refine Br.ff ?_); conv => whnf) | ((with_reducible refine Br.df ?_ ?_); (focus (first | assumption | omega)); conv => whnf))
        | ((with_reducible refine Ar.i64 ?_ ?_); (focus omega); conv => whnf)
        | ((with_reducible refine Nc.go' (fun b => ?_)); conv => whnf)
        | ((with_reducible refine Ix.ad ?_ ?_ ?_); (focus (exact Rd.ad (by assumption))); (focus (omega)); conv => whnf)
        | (first | ((with_reducible refine Sub.pre ?_ rfl ?_ ?_ ?_); (focus (first | exact Or.inl rfl | exact Or.inr ⟨_, rfl⟩)); (focus (omega)); (focus (omega)); conv => whnf) | ((with_reducible refine Sub.suf rfl ?_ ?_ ?_); (focus (omega)); (focus (omega)); conv => whnf))
        | ((with_reducible apply LdN.rdk); (focus ((repeat (first | assumption | apply Rd.cons)); done)); (focus rfl); (focus rfl); (focus (omega)); conv => whnf)
        | ((with_reducible refine Dr.by (id := 6) Try.tysOk rfl [(0, 0), (1, 0), (2, 0), (3, 0), (4, 0), (5, 0), (7, 0), (8, 0), (9, 0), (10, 0), (6, 1), (11, 1), (12, 1), (13, 0)] ?_ ?_); (focus kernel_rfl); conv => whnf)
        | (first | ((first | ((with_reducible apply (Sm.appAt (E := spE) (et := 29) Try.tysOk 0)); (focus rfl)) | ((with_reducible apply (Sm.appAt (E := spE) (et := 29) Try.tysOk 1)); (focus rfl))); (first | ((focus rfl); (focus ((repeat (first | ((refine Rd.own 2 rfl ?_); (assumption)) | refine Rd.drop ?_ _ _ (by (omega)))); done))) | (rotate_left; (focus (exact Rd.ptc 0 rfl [_] rfl)); rotate_right; (focus rfl))); (focus rfl); (focus rfl); (focus rfl); (focus rfl); (focus rfl); (focus rfl); (focus (simp only [List.length_set, List.length_append, List.length_take, List.length_drop, List.length_cons, List.length_nil] at *; omega)); (intro _ _ _ _); conv => whnf) | (((with_reducible_and_instances apply (Sm.appNew (E := spE) (et := 29) Try.tysOk 0)); (focus rfl)); ((focus rfl); (focus ((repeat (first | ((refine Rd.own 1 rfl ?_); (assumption)) | refine Rd.take ?_ _)); done))); (focus rfl); (focus rfl); (focus rfl); (focus rfl); (focus rfl); (focus (simp only [List.length_set, List.length_append, List.length_take, List.length_drop, List.length_cons, List.length_nil] at *; omega)); (intro _ _ _ _); conv => whnf)))
      rename_i a3 c3 hc3 had3
      have hz := ins_step h2 g1 g2 (fun h => (hj h).elim)
      rw [← take_snoc hk] at hz
      refine ⟨k + 1, _, a3, c3, by kernel_rfl, by (refine FEnt.ent ?_; (repeat (first | exact FEnt.rfl | (refine FEnt.at 0 rfl ?_; (try simp only [List.eraseIdx_cons_zero, List.eraseIdx_cons_succ, List.eraseIdx_zero, List.tail_cons])) | refine FEnt.drop ?_)); done), ⟨by omega, hz, had3, hc3⟩, by omega⟩
  · conv => whnf
    repeat' ((with_reducible refine Br.df ?_ ?_); (focus (first | assumption | omega)); conv => whnf)
    have e : k = xs.length := by omega
    subst e
    rw [List.take_length] at h2
    rw [sortF_eq h2]
    exact New.of rfl h4 h3 (by (exact Ent.rfl))

theorem runs_lenZ {k : Nat} {p : Int → Prop} {out : List Sp} (h : RunsOf k p out) : out.length ≤ k := runs_len h
theorem Try.refRuns (n : Int) (hn : n ≤ 1000000) (a : Option Addr) (c : Nat) (xs : List Sp) (is : Bool) (L : List HP) (hl : xs.length ≤ 1000000) (hr : Rd spE L a xs) :
    Con Try.prog 15 [.int .i64 n, .slice a xs.length c, .bool is] L (New spE 29 (runF n (fun m => inS xs m ↔ is = true)) L) := by
  refine con_of Try.tysOk Try.func15 rfl rfl ?_
  conv => whnf
  refine Nc.go' (fun b0 => ?_)
  conv => whnf
  refine Lp.by4 Try.tysOk [8, 7] (fun (k : Nat) (out : List Sp) (a2 : Option Addr) (c2 : Nat) => [.int .i64 k, .slice a2 out.length c2]) (fun k out a2 c2 => own spE 29 a2 c2 out :: L) (fun k out a2 c2 => (k = 0 ∨ (k : Int) ≤ n) ∧ RunsOf k (fun m => inS xs m ↔ is = true) out ∧ Ad a2 out.length ∧ out.length ≤ c2) (fun k out a2 c2 => (n - k).toNat) (0) ([]) (some ⟨b0, 0, none⟩) (0) (by kernel_rfl) (by (refine FEnt.ent ?_; (repeat (first | exact FEnt.rfl | (refine FEnt.own0 0 rfl ?_; (try simp only [List.eraseIdx_cons_zero, List.eraseIdx_cons_succ, List.eraseIdx_zero, List.tail_cons])))); done)) (⟨.inl rfl, runs_nil (Int.le_refl _), fun h => rfl, by simp⟩) ?_
  rintro k out a2 c2 ⟨h1, h2, h3, h4⟩
  conv => whnf
  repeat (intro _; conv => whnf)
  have hol := runs_lenZ h2
  by_cases hk : (k : Int) < n
  · by_cases hin : inS xs k ↔ is = true
    · have hb : decide (inS xs k) = is := by rw [Bool.eq_iff_iff, decide_eq_true_iff]; exact hin
      by_cases hlast : out ≠ [] ∧ (lastS out).2 = k
      · have hpos := List.length_pos_iff.2 hlast.1
        have ej : ((out.length : Int) - 1) = ((out.length - 1 : Nat) : Int) := by omega
        have hlst : (out.getD (out.length - 1) spE.d).2 = k := hlast.2
        have hz := runs_more h2 (by omega) hin hlast.1 hlast.2
        conv => whnf
        repeat' (first
          | (first | ((with_reducible refine Br.tt ?_); conv => whnf) | ((with_reducible refine Br.dt ?_ ?_); (focus (first | assumption | omega)); conv => whnf) | ((with_reducible refine Br.nef ?_ ?_); (focus (first | rfl | assumption)); conv => whnf))
          | ((with_reducible refine Ar.i64 ?_ ?_); (focus omega); conv => whnf)
          | ((with_reducible refine Nd.mk ?_ ?_); (focus (first | omega | rfl | assumption | (simp; done))); conv => whnf)
          | ((with_reducible refine Ix.ad ?_ ?_ ?_); (focus (assumption)); (focus (omega)); conv => whnf)
          | ((apply Ld.rd); (focus ((repeat ((refine Rd.own 0 rfl ?_); (assumption))); done)); (focus rfl); (focus (omega)); (focus rfl); conv => whnf)
          | ((with_reducible refine Cl.is (Try.refIn _ _ xs _ _ (by omega) (by ((repeat (first | assumption | apply Rd.cons)); done))) ?_); conv => whnf)
          | ((rw [hb]); conv => whnf)
          | ((rw [ej]); conv => whnf)
          | ((refine St.ownjk 0 rfl rfl ?_ ((lastS out).1, (k : Int) + 1) rfl (by exact Nat.le_of_ble_eq_true rfl) rfl ?_; (focus (omega))); conv => whnf))
        refine ⟨k + 1, out.set (out.length - 1) ((lastS out).1, (k : Int) + 1), a2, c2, (by rw [List.length_set]; kernel_rfl), (by (exact Ent.rfl)), ⟨.inr (by omega), by rw [Int.natCast_add]; exact hz, by simpa using h3, by simpa using h4⟩, by omega⟩
      · have hz := runs_new h2 (by omega) hin (by by_cases e : out = []; exact .inl e; exact .inr fun q => hlast ⟨e, q⟩)
        by_cases hpos : out = []
        · have hpos0 : out.length = 0 := by rw [hpos]; rfl
          conv => whnf
          repeat' (first
            | (first | ((with_reducible refine Br.ff ?_); conv => whnf) | ((with_reducible refine Br.dt ?_ ?_); (focus (first | assumption | omega)); conv => whnf) | ((with_reducible refine Br.df ?_ ?_); (focus (first | assumption | omega)); conv => whnf) | ((with_reducible refine Br.nef ?_ ?_); (focus (first | rfl | assumption)); conv => whnf))
            | ((with_reducible refine Ar.i64 ?_ ?_); (focus omega); conv => whnf)
            | ((with_reducible refine Nc.go' (fun b => ?_)); conv => whnf)
            | ((with_reducible refine Cl.is (Try.refIn _ _ xs _ _ (by omega) (by ((repeat (first | assumption | apply Rd.cons)); done))) ?_); conv => whnf)
            | (((with_reducible apply (Sm.appAt (E := spE) (et := 29) Try.tysOk 1)); (focus rfl)); (rotate_left; (focus (exact Rd.ptc 0 rfl [(_, _)] rfl)); rotate_right; (focus rfl)); (focus rfl); (focus rfl); (focus rfl); (focus rfl); (focus rfl); (focus rfl); (focus (simp only [List.length_set, List.length_append, List.length_take, List.length_drop, List.length_cons, List.length_nil] at *; omega)); (intro _ _ _ _); conv => whnf)
            | ((rw [hb]); conv => whnf))
          rename_i a3 c3 hc3 had3
          refine ⟨k + 1, _, a3, c3, by kernel_rfl, by (refine FEnt.ent ?_; (repeat (first | exact FEnt.rfl | (refine FEnt.at 0 rfl ?_; (try simp only [List.eraseIdx_cons_zero, List.eraseIdx_cons_succ, List.eraseIdx_zero, List.tail_cons])) | refine FEnt.drop ?_)); done), ⟨.inr (by omega), by rw [Int.natCast_add]; exact hz, had3, hc3⟩, by omega⟩
        · have hpos2 := List.length_pos_iff.2 hpos
          have ej : ((out.length : Int) - 1) = ((out.length - 1 : Nat) : Int) := by omega
          have hlst : ¬ (out.getD (out.length - 1) spE.d).2 = (k : Int) := fun q => hlast ⟨hpos, q⟩
          conv => whnf
          repeat' (first
            | (first | ((with_reducible refine Br.tt ?_); conv => whnf) | ((with_reducible refine Br.dt ?_ ?_); (focus (first | assumption | omega)); conv => whnf) | ((with_reducible refine Br.df ?_ ?_); (focus (first | assumption | omega)); conv => whnf) | ((with_reducible refine Br.nef ?_ ?_); (focus (first | rfl | assumption)); conv => whnf))
            | ((with_reducible refine Ar.i64 ?_ ?_); (focus omega); conv => whnf)
            | ((with_reducible refine Nc.go' (fun b => ?_)); conv => whnf)
            | ((with_reducible refine Ix.ad ?_ ?_ ?_); (focus (assumption)); (focus (omega)); conv => whnf)
            | ((apply Ld.rd); (focus ((repeat ((refine Rd.own 0 rfl ?_); (assumption))); done)); (focus rfl); (focus (omega)); (focus rfl); conv => whnf)
            | ((with_reducible refine Cl.is (Try.refIn _ _ xs _ _ (by omega) (by ((repeat (first | assumption | apply Rd.cons)); done))) ?_); conv => whnf)
            | (((with_reducible apply (Sm.appAt (E := spE) (et := 29) Try.tysOk 1)); (focus rfl)); (rotate_left; (focus (exact Rd.ptc 0 rfl [(_, _)] rfl)); rotate_right; (focus rfl)); (focus rfl); (focus rfl); (focus rfl); (focus rfl); (focus rfl); (focus rfl); (focus (simp only [List.length_set, List.length_append, List.length_take, List.length_drop, List.length_cons, List.length_nil] at *; omega)); (intro _ _ _ _); conv => whnf)
            | ((rw [hb]); conv => whnf)
            | ((rw [ej]); conv => whnf))
          rename_i a3 c3 hc3 had3
          refine ⟨k + 1, _, a3, c3, by kernel_rfl, by (refine FEnt.ent ?_; (repeat (first | exact FEnt.rfl | (refine FEnt.at 0 rfl ?_; (try simp only [List.eraseIdx_cons_zero, List.eraseIdx_cons_succ, List.eraseIdx_zero, List.tail_cons])) | refine FEnt.drop ?_)); done), ⟨.inr (by omega), by rw [Int.natCast_add]; exact hz, had3, hc3⟩, by omega⟩
    · have hb : decide (inS xs k) ≠ is := fun e => hin (by rw [← e, decide_eq_true_iff])
      have hz := runs_skip h2 hin
      conv => whnf
      repeat' (first
        | (first | ((with_reducible refine Br.dt ?_ ?_); (focus (first | assumption | omega)); conv => whnf) | ((with_reducible refine Br.net ?_ ?_); (focus (first | decide | assumption)); conv => whnf))
        | ((with_reducible refine Ar.i64 ?_ ?_); (focus omega); conv => whnf)
        | ((with_reducible refine Cl.is (Try.refIn _ _ xs _ _ (by omega) (by ((repeat (first | assumption | apply Rd.cons)); done))) ?_); conv => whnf))
      refine ⟨k + 1, _, a2, c2, by kernel_rfl, by (exact Ent.rfl), ⟨.inr (by omega), by rw [Int.natCast_add]; exact hz, h3, h4⟩, by omega⟩
  · conv => whnf
    repeat' ((with_reducible refine Br.df ?_ ?_); (focus (first | assumption | omega)); conv => whnf)
    have e : runF n (fun m => inS xs m ↔ is = true) = out := by
      by_cases h0 : n < 0
      · have hk0 : k = 0 := by omega
        subst hk0
        have : out = [] := List.eq_nil_of_length_eq_zero (by omega)
        subst this
        exact runF_eq (runs_nil (by omega))
      · have : (k : Int) = n := by omega
        rw [this] at h2
        exact runF_eq h2
    rw [e]
    exact New.of rfl h4 h3 (by (exact Ent.rfl))
end Go.Proofs
