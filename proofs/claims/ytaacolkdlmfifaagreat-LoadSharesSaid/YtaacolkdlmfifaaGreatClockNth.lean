/- The clock: the n'th tick. -/
import Derived.Test.YtaacolkdlmfifaaGreatClock
set_option linter.all false
namespace Go.Proofs
open Go.Eng
set_option linter.unusedVariables false
set_option maxRecDepth 100000
set_option maxHeartbeats 2000000
abbrev nthOk (t n f : Int) : Prop := okF f ∧ 1 ≤ n ∧ n ≤ 65536 ∧ 0 ≤ t ∧ t ≤ 2147483647
theorem Tryz.clkNthNo (t n f : Int) (a : Option Addr) (c : Nat) (xs : List Sp) (L : List HP) (h : ¬ nthOk t n f) : Con Tryz.prog 29 [n64 t, n64 n, n64 f, .slice a xs.length c] L (Is (n64 (-1)) L) := by
  by_cases hf : okF f
  · refine con_of Tryz.tysOk Tryz.func29 rfl rfl ?_
    conv => whnf
    refine Sc.plain Tryz.tysOk ?_
    conv => whnf
    repeat' (first
      | (first | ((with_reducible refine Br.tt ?_); conv => whnf) | ((with_reducible refine Br.ff ?_); conv => whnf) | ((with_reducible refine Br.nt ?_); conv => whnf) | ((with_reducible refine Br.dt ?_ ?_); (focus (first | assumption | omega)); conv => whnf))
      | ((with_reducible refine Cl.is (Con.dt hf (Tryz.clkRight _ _)) ?_); conv => whnf)
      | ((with_reducible refine Br.ds (fun _ => ?_) (fun _ => ?_) ) <;> (conv => whnf)))
    all_goals (refine Is.ent ?_ ?_; (focus (exact Ent.rfl)); (exact Is.rfl))
  · refine con_of Tryz.tysOk Tryz.func29 rfl rfl ?_
    conv => whnf
    refine Sc.plain Tryz.tysOk ?_
    conv => whnf
    repeat' (first
      | (first | ((with_reducible refine Br.tt ?_); conv => whnf) | ((with_reducible refine Br.nf ?_); conv => whnf))
      | ((with_reducible refine Cl.is (Con.df hf (Tryz.clkRight _ _)) ?_); conv => whnf))
    all_goals (refine Is.ent ?_ ?_; (focus (exact Ent.rfl)); (exact Is.rfl))
/-- what the n'th tick is -/
structure NthP (xs : List Sp) (f t n T : Int) : Prop where
  yes : (∃ o, 0 ≤ o ∧ o < f ∧ inS xs o) → NthOf (meetI f (mergeF xs)) f t n T
  no : (¬ ∃ o, 0 ≤ o ∧ o < f ∧ inS xs o) → T = -1
  le : T ≤ 9223372036854775807
theorem totalS_pos {I : List Sp} (h : ∀ x ∈ I, isS x.1 x.2) : totalS I ≠ 0 ↔ I ≠ [] := by
  cases I with
  | nil => simp [totalS]
  | cons x I =>
    have h1 := h x (by simp)
    have h2 : 0 ≤ totalS I := by
      have : ∀ J : List Sp, (∀ y ∈ J, isS y.1 y.2) → 0 ≤ totalS J := by
        intro J
        induction J with
        | nil => intro _; simp [totalS]
        | cons y J ih =>
          intro h
          have := h y (by simp)
          have := ih fun z hz => h z (by simp [hz])
          have e : totalS (y :: J) = (y.2 - y.1) + totalS J := by simp [totalS]
          omega
      exact this I fun y hy => h y (by simp [hy])
    have e : totalS (x :: I) = (x.2 - x.1) + totalS I := by simp [totalS]
    constructor
    · intro _ h; cases h
    · intro _; omega
theorem totalS_snoc {I : List Sp} {x : Sp} : totalS (I ++ [x]) = totalS I + (x.2 - x.1) := by simp [totalS]
theorem Tryz.clkNth (t n f : Int) (a : Option Addr) (c : Nat) (xs : List Sp) (L : List HP) (h : nthOk t n f) (hl : xs.length ≤ 5000) (hr : Rd spE L a xs) :
    Con Tryz.prog 29 [n64 t, n64 n, n64 f, .slice a xs.length c] L (Exs n64 (fun _ => L) (NthP xs f t n)) := by
  have hmi := merge_inv xs
  have hml := mergeF_len xs
  refine con_of Tryz.tysOk Tryz.func29 rfl rfl ?_
  conv => whnf
  refine Sc.plain Tryz.tysOk ?_
  conv => whnf
  repeat' (first
    | (first | ((with_reducible refine Br.ff ?_); conv => whnf) | ((with_reducible refine Br.nt ?_); conv => whnf) | ((with_reducible refine Br.df ?_ ?_); (focus (first | assumption | omega)); conv => whnf))
    | ((with_reducible refine Cl.is (Con.dt h.1 (Tryz.clkRight _ _)) ?_); conv => whnf)
    | ((refine Cl.new (Tryz.spanMerge a c xs L (by omega) hr) (fun a1 c1 hc1 had1 => ?_)); conv => whnf))
  have hno : (¬ ∃ o, 0 ≤ o ∧ o < f ∧ inS xs o) ↔ meetI f (mergeF xs) = [] := by
    constructor
    · intro hx
      rcases hI : meetI f (mergeF xs) with _ | ⟨y, I⟩
      · rfl
      · have hy := meetI_ok (f := f) hmi.1.is y (by rw [hI]; simp)
        have := (meetI_in (f := f) (M := mergeF xs) (o := y.1)).1 ⟨y, by rw [hI]; simp, by unfold holdsS; omega⟩
        exact (hx ⟨y.1, by omega, this.1, (hmi.2 _).1 this.2⟩).elim
    · rintro e ⟨o, h1, h2, h3⟩
      have := (meetI_in (f := f) (M := mergeF xs) (o := o)).2 ⟨h2, (hmi.2 _).2 h3⟩
      rw [e] at this
      exact inS_nil this
  have hCI := meetI_canon (f := f) hmi.1
  have hM := hmi.1
  generalize hMM : mergeF xs = M at *
  conv => whnf
  refine Lp.by4 Tryz.tysOk [43, 9, 10] (fun (k : Nat) (out : List Sp) (al : Int) (x : Option Addr × Nat) => [.int .i64 k, .slice x.1 out.length x.2, n64 al]) (fun k out al x => own spE 65 x.1 x.2 out :: own spE 65 a1 c1 M :: L) (fun k out al x => k ≤ M.length ∧ out = meetI f (M.take k) ∧ al = totalS out ∧ Ad x.1 out.length ∧ out.length ≤ x.2) (fun k out al x => M.length - k) (0) ([]) (0) ((none, 0)) (by kernel_rfl) (by (exact Ent.nil)) (⟨by omega, rfl, rfl, fun h => (h rfl).elim, by simp⟩) ?_
  rintro k out al ⟨a2, c2⟩ ⟨h1, h2, h3, h4, h5⟩
  conv => whnf
  repeat (intro _; conv => whnf)
  dsimp only at h4 h5
  have hol : out.length ≤ k := by rw [h2]; exact Nat.le_trans (meetI_len f _) (by rw [List.length_take]; omega)
  have hok : ∀ y ∈ out, isS y.1 y.2 ∧ y.2 ≤ 1000000 := fun y hy => by
    have := meetI_ok (f := f) (M := M.take k) (fun z hz => hM.is z (List.mem_of_mem_take hz)) y (by rw [← h2]; exact hy)
    omega
  have hbd := totalS_bd hok
  rw [← h3] at hbd
  by_cases hk : k < M.length
  · have hx := hM.is _ (getD_mem (d := spE.d) hk)
    by_cases hxf : (M.getD k spE.d).1 < f
    · have hz := meetI_yes hk hxf
      rw [← h2] at hz
      have hmt : meetS (M.getD k spE.d).1 (M.getD k spE.d).2 0 f := ⟨hx, ⟨by omega, by omega⟩, hxf, by omega⟩
      have hmx : max (M.getD k spE.d).1 0 = (M.getD k spE.d).1 := by omega
      have hmm := Tryz.spanMeetT (M.getD k spE.d).1 (M.getD k spE.d).2 0 f
      rw [hmx] at hmm
      conv => whnf
      repeat' (first
        | (first | ((with_reducible refine Br.tt ?_); conv => whnf) | ((with_reducible refine Br.dt ?_ ?_); (focus (first | assumption | omega)); conv => whnf))
        | ((with_reducible refine Ar.i64 ?_ ?_); (focus omega); conv => whnf)
        | ((with_reducible refine Nd.mk ?_ ?_); (focus (first | omega | rfl | assumption | (simp; done))); conv => whnf)
        | ((with_reducible refine Nc.go' (fun _ => ?_)); conv => whnf)
        | ((with_reducible refine Ix.ad ?_ ?_ ?_); (focus (assumption)); (focus (omega)); conv => whnf)
        | (refine Ld.at 2 rfl rfl ?_; conv => whnf)
        | (first | ((with_reducible apply LdN.rdk); (focus ((repeat ((refine Rd.own 1 rfl ?_); (assumption))); done)); (focus rfl); (focus rfl); (focus (omega)); conv => whnf) | (refine LdN.at 0 rfl (by first | exact Nat.le_of_ble_eq_true rfl | (simp; done)) ?_; conv => whnf))
        | (refine St.at 0 rfl (by first | exact Nat.le_of_ble_eq_true rfl | (simp; done)) rfl ?_; conv => whnf)
        | ((with_reducible refine Cl.is (hmm _ hmt) ?_); conv => whnf)
        | (((with_reducible apply (Sm.appAt (E := spE) (et := 65) Tryz.tysOk 3)); (focus rfl); (rotate_left; (focus (exact Rd.ptc 0 rfl [((M.getD k spE.d).1, min (M.getD k spE.d).2 f)] rfl)); rotate_right; (focus rfl)); (focus rfl); (focus rfl); (focus rfl); (focus rfl); (focus rfl); (focus rfl); (focus ((simp only [List.length_append, List.length_cons, List.length_nil]); omega)); (intro _ _ _ _)); conv => whnf))
      rename_i a3 c3 hc3 had3
      refine ⟨k + 1, out ++ [((M.getD k spE.d).1, min (M.getD k spE.d).2 f)], al + (min (M.getD k spE.d).2 f - (M.getD k spE.d).1), (a3, c3), by kernel_rfl, by (refine FEnt.ent ?_; (repeat (first | exact FEnt.rfl | (refine FEnt.at 0 rfl ?_; (try simp only [List.eraseIdx_cons_zero, List.eraseIdx_cons_succ, List.eraseIdx_zero, List.tail_cons])) | (refine FEnt.at 3 rfl ?_; (try simp only [List.eraseIdx_cons_zero, List.eraseIdx_cons_succ, List.eraseIdx_zero, List.tail_cons])) | refine FEnt.drop ?_)); done), ⟨by omega, hz.symm, by rw [totalS_snoc, h3], had3, hc3⟩, by omega⟩
    · have hz := meetI_no hk hxf
      rw [← h2] at hz
      have hmt : ¬ meetS (M.getD k spE.d).1 (M.getD k spE.d).2 0 f := fun h => hxf h.2.2.1
      conv => whnf
      repeat' (first
        | (first | ((with_reducible refine Br.ff ?_); conv => whnf) | ((with_reducible refine Br.dt ?_ ?_); (focus (first | assumption | omega)); conv => whnf))
        | ((with_reducible refine Ar.i64 ?_ ?_); (focus omega); conv => whnf)
        | ((with_reducible refine Nd.mk ?_ ?_); (focus (first | omega | rfl | assumption | (simp; done))); conv => whnf)
        | ((with_reducible refine Nc.go' (fun _ => ?_)); conv => whnf)
        | ((with_reducible refine Ix.ad ?_ ?_ ?_); (focus (assumption)); (focus (omega)); conv => whnf)
        | (first | ((with_reducible apply LdN.rdk); (focus ((repeat ((refine Rd.own 1 rfl ?_); (assumption))); done)); (focus rfl); (focus rfl); (focus (omega)); conv => whnf) | (refine LdN.at 0 rfl (by first | exact Nat.le_of_ble_eq_true rfl | (simp; done)) ?_; conv => whnf))
        | (refine St.at 0 rfl (by first | exact Nat.le_of_ble_eq_true rfl | (simp; done)) rfl ?_; conv => whnf)
        | ((with_reducible refine Cl.is (Tryz.spanMeetF _ _ _ _ _ hmt) ?_); conv => whnf))
      refine ⟨k + 1, out, al, (a2, c2), by kernel_rfl, by (refine FEnt.ent ?_; (repeat (first | exact FEnt.rfl | (refine FEnt.at 2 rfl ?_; (try simp only [List.eraseIdx_cons_zero, List.eraseIdx_cons_succ, List.eraseIdx_zero, List.tail_cons])) | refine FEnt.drop ?_)); done), ⟨by omega, hz.symm, h3, h4, h5⟩, by omega⟩
  · have ek : k = M.length := by omega
    rw [ek, List.take_length] at h2
    have hCout : Canon out := by rw [h2]; exact hCI
    have hokf : ∀ y ∈ out, isS y.1 y.2 ∧ y.2 ≤ f := by rw [h2]; exact meetI_ok hM.is
    have hpos := totalS_pos (I := out) fun y hy => (hokf y hy).1
    rw [← h2] at hno
    by_cases hal : al = 0
    · have he : out = [] := by
        by_cases e : out = []
        · exact e
        · exact (hpos.2 e (by rw [← h3]; exact hal)).elim
      conv => whnf
      repeat' (first | ((with_reducible refine Br.dt ?_ ?_); (focus (first | assumption | omega)); conv => whnf) | ((with_reducible refine Br.df ?_ ?_); (focus (first | assumption | omega)); conv => whnf))
      exact Exs.of (-1) (by (refine FEnt.ent ?_; (repeat (first | exact FEnt.rfl | refine FEnt.drop ?_)); done)) ⟨fun hy => (hno.2 he hy).elim, fun _ => rfl, by omega⟩ rfl
    · have hne : out ≠ [] := hpos.1 (by rw [← h3]; exact hal)
      have hyes : ∃ o, 0 ≤ o ∧ o < f ∧ inS xs o := Classical.not_not.1 fun hx => hne (hno.1 hx)
      have hcf : cov out f = al := by rw [cov_all hokf, h3]
      conv => whnf
      repeat' (first
        | ((with_reducible refine Br.df ?_ ?_); (focus (first | assumption | omega)); conv => whnf)
        | ((with_reducible refine Nd.mk ?_ ?_); (focus (first | omega | rfl | assumption | (simp; done))); conv => whnf)
        | ((with_reducible refine Cl.is (Tryz.clkFrame _ _ _ ⟨h.2.2.2.1, by omega⟩ h.1) ?_); conv => whnf))
      have hq := qr (n := t) (f := f) (by omega)
      have hd := div_nn (n := t) (f := f) h.2.2.2.1 (by omega)
      have hcb := fun o => cov_bd (I := out) (f := f) (o := o) fun y hy => ⟨(hokf y hy).1, by have := (hokf y hy).2; omega⟩
      have hcb2 : ∀ j o, 0 ≤ cov (out.take j) o ∧ cov (out.take j) o ≤ 4096 * (out.take j).length := fun j o => cov_bd (f := f) fun y hy => ⟨(hokf y (List.mem_of_mem_take hy)).1, by have := (hokf y (List.mem_of_mem_take hy)).2; omega⟩
      conv => whnf
      refine Lp.by2 Tryz.tysOk [77, 1] (fun (j : Nat) (m : Int) => [.int .i64 j, n64 m]) (fun j m => own spE 65 a2 c2 out :: L) (fun j m => j ≤ out.length ∧ m = n + cov (out.take j) (t % f)) (fun j m => out.length - j) (0) (n) (by kernel_rfl) (by (refine FEnt.ent ?_; (repeat (first | exact FEnt.rfl | (refine FEnt.at 0 rfl ?_; (try simp only [List.eraseIdx_cons_zero, List.eraseIdx_cons_succ, List.eraseIdx_zero, List.tail_cons])) | refine FEnt.drop ?_)); done)) (⟨by omega, by simp [cov]⟩) ?_
      rintro j m ⟨g1, g2⟩
      conv => whnf
      repeat (intro _; conv => whnf)
      have hb1 := hcb2 j (t % f)
      have hjl : ((out.take j).length : Int) ≤ 5000 := by rw [List.length_take]; omega
      by_cases hj : j < out.length
      · have hs := cov_take (o := t % f) hj
        have hyj := hokf _ (getD_mem (d := spE.d) hj)
        conv => whnf
        repeat' (first
          | ((with_reducible refine Br.dt ?_ ?_); (focus (first | assumption | omega)); conv => whnf)
          | ((with_reducible refine Ar.i64 ?_ ?_); (focus omega); conv => whnf)
          | ((with_reducible refine Nd.mk ?_ ?_); (focus (first | omega | rfl | assumption | (simp; done))); conv => whnf)
          | ((with_reducible refine Nc.go' (fun _ => ?_)); conv => whnf)
          | ((with_reducible refine Ix.ad ?_ ?_ ?_); (focus (assumption)); (focus (omega)); conv => whnf)
          | (refine Ld.at 0 rfl rfl ?_; conv => whnf)
          | ((with_reducible apply LdN.rdk); (focus ((repeat ((refine Rd.own 0 rfl ?_); (assumption))); done)); (focus rfl); (focus rfl); (focus (omega)); conv => whnf)
          | (refine St.at 0 rfl (by first | exact Nat.le_of_ble_eq_true rfl | (simp; done)) rfl ?_; conv => whnf))
        refine ⟨j + 1, m + min (max (t % f - (out.getD j spE.d).1) 0) ((out.getD j spE.d).2 - (out.getD j spE.d).1), by kernel_rfl, by (refine FEnt.ent ?_; (repeat (first | exact FEnt.rfl | (refine FEnt.at 1 rfl ?_; (try simp only [List.eraseIdx_cons_zero, List.eraseIdx_cons_succ, List.eraseIdx_zero, List.tail_cons])) | refine FEnt.drop ?_)); done), ⟨by omega, by omega⟩, by omega⟩
      · have ej : j = out.length := by omega
        rw [ej, List.take_length] at g2 hb1 hjl
        have e1 : (m - 1).tdiv al = (m - 1) / al := Int.tdiv_eq_ediv_of_nonneg (by omega)
        have e2 : (m - 1).tmod al = (m - 1) % al := Int.tmod_eq_emod_of_nonneg (by omega)
        have hal0 : 0 < al := by omega
        have hq2 := qr (n := m - 1) (f := al) hal0
        have hd2 := div_nn (n := m - 1) (f := al) (by omega) hal0
        rw [← e1] at hd2
        conv => whnf
        repeat' (first
          | ((with_reducible refine Br.df ?_ ?_); (focus (first | assumption | omega)); conv => whnf)
          | ((with_reducible refine Ar.i64 ?_ ?_); (focus omega); conv => whnf)
          | ((with_reducible refine Nd.mk ?_ ?_); (focus (first | omega | rfl | assumption | (simp; done))); conv => whnf))
        rw [e1, e2]
        rw [e1] at hd2
        conv => whnf
        refine Lp.by2 Tryz.tysOk [107, 1] (fun (i : Nat) (r : Int) => [.int .i64 i, n64 r]) (fun i r => own spE 65 a2 c2 out :: L) (fun i r => i ≤ out.length ∧ 0 ≤ r ∧ r ≤ al ∧ r = (m - 1) % al - totalS (out.take i)) (fun i r => out.length - i) (0) ((m - 1) % al) (by kernel_rfl) (by (exact Ent.rfl)) (⟨by omega, by omega, by omega, by simp [totalS]⟩) ?_
        rintro i r ⟨i1, i2, i4, i3⟩
        conv => whnf
        repeat (intro _; conv => whnf)
        by_cases hi : i < out.length
        · have hyi := hokf _ (getD_mem (d := spE.d) hi)
          have hti := totalS_take hi
          by_cases hri : r ≥ (out.getD i spE.d).2 - (out.getD i spE.d).1
          · conv => whnf
            repeat' (first
              | ((with_reducible refine Br.dt ?_ ?_); (focus (first | assumption | omega)); conv => whnf)
              | ((with_reducible refine Ar.i64 ?_ ?_); (focus omega); conv => whnf)
              | ((with_reducible refine Nd.mk ?_ ?_); (focus (first | omega | rfl | assumption | (simp; done))); conv => whnf)
              | ((with_reducible refine Nc.go' (fun _ => ?_)); conv => whnf)
              | ((with_reducible refine Ix.ad ?_ ?_ ?_); (focus (assumption)); (focus (omega)); conv => whnf)
              | (refine Ld.at 0 rfl rfl ?_; conv => whnf)
              | ((with_reducible apply LdN.rdk); (focus ((repeat ((refine Rd.own 0 rfl ?_); (assumption))); done)); (focus rfl); (focus rfl); (focus (omega)); conv => whnf)
              | (refine St.at 0 rfl (by first | exact Nat.le_of_ble_eq_true rfl | (simp; done)) rfl ?_; conv => whnf))
            refine ⟨i + 1, r - ((out.getD i spE.d).2 - (out.getD i spE.d).1), by kernel_rfl, by (refine FEnt.ent ?_; (repeat (first | exact FEnt.rfl | (refine FEnt.at 1 rfl ?_; (try simp only [List.eraseIdx_cons_zero, List.eraseIdx_cons_succ, List.eraseIdx_zero, List.tail_cons])) | refine FEnt.drop ?_)); done), ⟨by omega, by omega, by omega, by omega⟩, by omega⟩
          · have hmb := mul_bd (k := t / f + (m - 1) / al) (f := f) (a := 2147483647 + 65536 + 20480000) (b := 4096) (by omega) (by omega) (by omega) (by omega)
            conv => whnf
            repeat' (first
              | (first | ((with_reducible refine Br.dt ?_ ?_); (focus (first | assumption | omega)); conv => whnf) | ((with_reducible refine Br.df ?_ ?_); (focus (first | assumption | omega)); conv => whnf))
              | ((with_reducible refine Ar.i64 ?_ ?_); (focus omega); conv => whnf)
              | ((with_reducible refine Nd.mk ?_ ?_); (focus (first | omega | rfl | assumption | (simp; done))); conv => whnf)
              | ((with_reducible refine Nc.go' (fun _ => ?_)); conv => whnf)
              | ((with_reducible refine Ix.ad ?_ ?_ ?_); (focus (assumption)); (focus (omega)); conv => whnf)
              | (refine Ld.at 0 rfl rfl ?_; conv => whnf)
              | ((with_reducible apply LdN.rdk); (focus ((repeat ((refine Rd.own 0 rfl ?_); (assumption))); done)); (focus rfl); (focus rfl); (focus (omega)); conv => whnf)
              | (refine St.at 0 rfl (by first | exact Nat.le_of_ble_eq_true rfl | (simp; done)) rfl ?_; conv => whnf))
            refine Exs.of ((t / f + (m - 1) / al) * f + (out.getD i spE.d).1 + r) (by (refine FEnt.ent ?_; (repeat (first | exact FEnt.rfl | refine FEnt.drop ?_)); done)) ⟨fun _ => ?_, fun hx => (hx hyes).elim, by omega⟩ rfl
            rw [hMM, ← h2]
            have hdv := div_of (n := (t / f + (m - 1) / al) * f + (out.getD i spE.d).1 + r) (k := t / f + (m - 1) / al) (f := f) (by omega) (by omega)
            have hoff : (t / f + (m - 1) / al) * f + (out.getD i spE.d).1 + r - (t / f + (m - 1) / al) * f = (out.getD i spE.d).1 + r := by omega
            rw [hoff] at hdv
            refine ⟨by omega, ?_, ?_⟩
            · rw [hdv.2]
              exact ⟨_, getD_mem (d := spE.d) hi, by unfold holdsS; omega⟩
            · unfold cntT
              rw [hdv.1, hdv.2, cov_mid hCout hi i2 (by omega), hcf, Int.add_mul]
              omega
        · have ei : i = out.length := by omega
          rw [ei, List.take_length, ← h3] at i3
          omega
end Go.Proofs
