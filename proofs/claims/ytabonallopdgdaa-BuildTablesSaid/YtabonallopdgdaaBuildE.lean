/- Tables of wishes, by the document: what they are, and when there are none: contracts. -/
import Derived.Test.YtabonallopdgdaaBuildD
set_option linter.all false
namespace Go.Proofs
open Go.Eng
open Classical
set_option linter.unusedVariables false
set_option maxRecDepth 100000
set_option maxHeartbeats 2000000
abbrev cfV0 : Value := .agg #[n64 0, .slice none 0 0, .slice none 0 0, .slice none 0 0]
abbrev fullP (xs : List Wsh) (k : Nat) : Prop := 128 + sumB zF xs (k + 1) ≤ 16384 ∧ 2 * (xs.length : Int) + sumB pF xs (k + 1) ≤ 4096 ∧ sumB qF xs (k + 1) ≤ 4096
/-- why there are no tables: the number and the reason -/
inductive NoT (xs : List Wsh) : Int → Int → Prop where
  | len (h : ¬ (1 ≤ xs.length ∧ xs.length ≤ 8)) : NoT xs 0 4
  | may (h : 1 ≤ xs.length ∧ xs.length ≤ 8) (i : Nat) (hi : i < xs.length) (hp : ∀ j, j < i → mayW (xs.getD j wsE.d)) (hb : ¬ mayW (xs.getD i wsE.d)) : NoT xs ((i : Int) + 1) 2
  | full (h : 1 ≤ xs.length ∧ xs.length ≤ 8) (hm : ∀ w ∈ xs, mayW w) (k : Nat) (hk : k < xs.length) (hp : ∀ j, j < k → fullP xs j) (hb : ¬ fullP xs k) : NoT xs ((k : Int) + 1) 8
theorem tab_or (xs : List Wsh) : HadT xs ∨ ∃ n e, NoT xs n e := by
  by_cases hl : 1 ≤ xs.length ∧ xs.length ≤ 8
  · have key : ∀ m, m ≤ xs.length → (∃ n e, NoT xs n e) ∨ ∀ j, j < m → mayW (xs.getD j wsE.d) := by
      intro m
      induction m with
      | zero => intro _; exact .inr (fun j h => by omega)
      | succ m ih =>
        intro hm
        rcases ih (by omega) with h | h
        · exact .inl h
        · by_cases hw : mayW (xs.getD m wsE.d)
          · exact .inr (lt_step h hw)
          · exact .inl ⟨_, _, .may hl m (by omega) h hw⟩
    rcases key xs.length (Nat.le_refl _) with h | h
    · exact .inr h
    · have hm : ∀ w ∈ xs, mayW w := fun w hw => by
        obtain ⟨i, hi, rfl⟩ := List.getElem_of_mem hw
        have := h i hi
        rwa [show xs.getD i wsE.d = xs[i] from by simp [List.getD, hi]] at this
      have key2 : ∀ m, m ≤ xs.length → (∃ n e, NoT xs n e) ∨ ∀ j, j < m → fullP xs j := by
        intro m
        induction m with
        | zero => intro _; exact .inr (fun j h => by omega)
        | succ m ih =>
          intro hm2
          rcases ih (by omega) with h2 | h2
          · exact .inl h2
          · by_cases hw : fullP xs m
            · exact .inr (lt_step h2 hw)
            · exact .inl ⟨_, _, .full hl hm m (by omega) h2 hw⟩
      rcases key2 xs.length (Nat.le_refl _) with h2 | h2
      · exact .inr h2
      · exact .inl ⟨hl, hm, h2⟩
  · exact .inr ⟨_, _, .len hl⟩
theorem Try.refSumsI (a : Option Addr) (c : Nat) (xs : List Wsh) (i : Int) (k : Nat) (L : List HP) (hl : xs.length ≤ 8) (hm : ∀ x ∈ xs, mayW x) (hk : (k : Int) = i) (hi : k ≤ xs.length) (hr : Rd wsE L a xs) :
    Con Try.prog 27 [.slice a xs.length c, n64 i] L (Is (.agg #[n64 (sumB zF xs k), n64 0, n64 (sumB qU xs k), n64 0, n64 (sumB sF xs k), n64 (sumB pF xs k)]) L) := by
  subst hk
  exact Try.refSums a c xs k L hl hm hi hr
theorem sums_bd {xs : List Wsh} (hm : ∀ x ∈ xs, mayW x) (hl : xs.length ≤ 8) (k : Nat) (hk : k ≤ xs.length) : (0 ≤ sumB zF xs k ∧ sumB zF xs k ≤ 8192) ∧ (0 ≤ sumB sF xs k ∧ sumB sF xs k ≤ 512) ∧ (0 ≤ sumB pF xs k ∧ sumB pF xs k ≤ 32768) ∧ (0 ≤ sumB qU xs k ∧ sumB qU xs k ≤ 128) := by
  have hmz : ∀ x ∈ xs, (0 ≤ zF x ∧ zF x ≤ 1024) ∧ (0 ≤ sF x ∧ sF x ≤ 64) ∧ (0 ≤ pF x ∧ pF x ≤ 4096) ∧ (0 ≤ qU x ∧ qU x ≤ 16) := fun x hx => by
    obtain ⟨⟨a1, a2, -, -⟩, ⟨a3, a4, -, -⟩, a5, a6, a7, a8⟩ := hm x hx
    simp only [zF, sF, pF, qU]
    omega
  have hz := sumB_bd (f := zF) (fun x hx => (hmz x hx).1) (by omega) k hk
  have hs := sumB_bd (f := sF) (fun x hx => (hmz x hx).2.1) (by omega) k hk
  have hp := sumB_bd (f := pF) (fun x hx => (hmz x hx).2.2.1) (by omega) k hk
  have hq := sumB_bd (f := qU) (fun x hx => (hmz x hx).2.2.2) (by omega) k hk
  omega
theorem Try.refTabNo (a : Option Addr) (c : Nat) (xs : List Wsh) (n e : Int) (L : List HP) (hx : xs.length ≤ 1000) (h : NoT xs n e) (hr : Rd wsE L a xs) :
    Con Try.prog 10 [.slice a xs.length c] L (Is (.tuple #[cfV0, n64 n, n64 e]) L) := by
  cases h with
  | len h =>
    refine con_of Try.tysOk Try.func10 rfl rfl ?_
    conv => whnf
    repeat' (first
      | (first | ((with_reducible refine Br.tt ?_); conv => whnf) | ((with_reducible refine Br.ff ?_); conv => whnf) | ((with_reducible refine Br.dt ?_ ?_); (focus (first | assumption | omega)); conv => whnf))
      | ((with_reducible refine Nd.mk ?_ ?_); (focus (first | omega | rfl | assumption | (simp; done))); conv => whnf)
      | ((with_reducible refine Nc.go' (fun _ => ?_)); conv => whnf)
      | (refine LdN.at 0 rfl (by first | exact Nat.le_of_ble_eq_true rfl | (simp; done)) ?_; conv => whnf)
      | (refine St.at 0 rfl (by first | exact Nat.le_of_ble_eq_true rfl | (simp; done)) rfl ?_; conv => whnf)
      | ((with_reducible refine Br.ds (fun _ => ?_) (fun _ => ?_) ) <;> (conv => whnf)))
    all_goals first | (refine Is.ent ?_ ?_; (focus (refine FEnt.ent ?_; (repeat (first | exact FEnt.rfl | refine FEnt.drop ?_)); done)); (exact Is.rfl)) | (exfalso; omega)
  | may h i hi hp hb =>
    have hmy := fun w L => Try.refMay w L
    refine con_of Try.tysOk Try.func10 rfl rfl ?_
    conv => whnf
    repeat' (first
      | (first | ((with_reducible refine Br.ff ?_); conv => whnf) | ((with_reducible refine Br.df ?_ ?_); (focus (first | assumption | omega)); conv => whnf))
      | ((with_reducible refine Nc.go' (fun _ => ?_)); conv => whnf))
    rename_i b2
    conv => whnf
    refine Lp.by Try.tysOk [6] (fun (k : Nat) => [.int .i64 k]) (fun k => ptc b2 34 [n64 0, .slice none 0 0, .slice none 0 0, .slice none 0 0] :: L) (fun k => k ≤ i) (fun k => i - k) (0) (by kernel_rfl) (by (exact Ent.rfl)) (by omega) ?_
    rintro k g1
    conv => whnf
    repeat (intro _; conv => whnf)
    by_cases hk : k < i
    · conv => whnf
      repeat' (first
        | (first | ((with_reducible refine Br.nt ?_); conv => whnf) | ((with_reducible refine Br.dt ?_ ?_); (focus (first | assumption | omega)); conv => whnf))
        | ((with_reducible refine Ar.i64 ?_ ?_); (focus omega); conv => whnf)
        | ((with_reducible refine Ix.ad ?_ ?_ ?_); (focus (exact Rd.ad (by assumption))); (focus (omega)); conv => whnf)
        | ((with_reducible apply LdN.rdk); (focus ((repeat (first | assumption | apply Rd.cons)); done)); (focus rfl); (focus rfl); (focus (omega)); conv => whnf)
        | ((with_reducible refine Cl.is (Con.dt (hp k hk) (hmy _ _)) ?_); conv => whnf))
      refine ⟨k + 1, by kernel_rfl, by (exact Ent.rfl), by omega, by omega⟩
    · have ei : k = i := by omega
      subst ei
      conv => whnf
      repeat' (first
        | (first | ((with_reducible refine Br.nf ?_); conv => whnf) | ((with_reducible refine Br.dt ?_ ?_); (focus (first | assumption | omega)); conv => whnf))
        | ((with_reducible refine Ar.i64 ?_ ?_); (focus omega); conv => whnf)
        | ((with_reducible refine Nd.mk ?_ ?_); (focus (first | omega | rfl | assumption | (simp; done))); conv => whnf)
        | ((with_reducible refine Ix.ad ?_ ?_ ?_); (focus (exact Rd.ad (by assumption))); (focus (omega)); conv => whnf)
        | (first | ((with_reducible apply LdN.rdk); (focus ((repeat (first | assumption | apply Rd.cons)); done)); (focus rfl); (focus rfl); (focus (omega)); conv => whnf) | (refine LdN.at 0 rfl (by first | exact Nat.le_of_ble_eq_true rfl | (simp; done)) ?_; conv => whnf))
        | (refine St.at 0 rfl (by first | exact Nat.le_of_ble_eq_true rfl | (simp; done)) rfl ?_; conv => whnf)
        | ((with_reducible refine Cl.is (Con.df hb (hmy _ _)) ?_); conv => whnf))
      all_goals first | (refine Is.ent ?_ ?_; (focus (refine FEnt.ent ?_; (repeat (first | exact FEnt.rfl | refine FEnt.drop ?_)); done)); (exact Is.rfl)) | (exfalso; omega)
  | full h hm k0 hk0 hp hb =>
    have hmy := fun w L (h : w ∈ xs) => Con.dt (hm w h) (Try.refMay w L)
    have hsm := fun i k L hk hi h' => Try.refSumsI a c xs i k L h.2 hm hk hi h'
    have hbd := fun k hk => sums_bd hm h.2 k hk
    have hq4 := sumB_q xs
    simp only [fullP] at hp hb
    clear hm
    refine con_of Try.tysOk Try.func10 rfl rfl ?_
    conv => whnf
    repeat' (first
      | (first | ((with_reducible refine Br.ff ?_); conv => whnf) | ((with_reducible refine Br.df ?_ ?_); (focus (first | assumption | omega)); conv => whnf))
      | ((with_reducible refine Nc.go' (fun _ => ?_)); conv => whnf))
    rename_i b2
    conv => whnf
    refine Lp.by Try.tysOk [6] (fun (k : Nat) => [.int .i64 k]) (fun k => ptc b2 34 [n64 0, .slice none 0 0, .slice none 0 0, .slice none 0 0] :: L) (fun k => k ≤ xs.length) (fun k => xs.length - k) (0) (by kernel_rfl) (by (exact Ent.rfl)) (by omega) ?_
    rintro k g1
    conv => whnf
    repeat (intro _; conv => whnf)
    by_cases hk : k < xs.length
    · conv => whnf
      repeat' (first
        | (first | ((with_reducible refine Br.nt ?_); conv => whnf) | ((with_reducible refine Br.dt ?_ ?_); (focus (first | assumption | omega)); conv => whnf))
        | ((with_reducible refine Ar.i64 ?_ ?_); (focus omega); conv => whnf)
        | ((with_reducible refine Ix.ad ?_ ?_ ?_); (focus (exact Rd.ad (by assumption))); (focus (omega)); conv => whnf)
        | ((with_reducible apply LdN.rdk); (focus ((repeat (first | assumption | apply Rd.cons)); done)); (focus rfl); (focus rfl); (focus (omega)); conv => whnf)
        | ((with_reducible refine Cl.is (hmy _ _ (getD_mem (d := wsE.d) hk)) ?_); conv => whnf))
      refine ⟨k + 1, by kernel_rfl, by (exact Ent.rfl), by omega, by omega⟩
    · conv => whnf
      repeat' ((with_reducible refine Br.df ?_ ?_); (focus (first | assumption | omega)); conv => whnf)
      conv => whnf
      refine Lp.by Try.tysOk [7] (fun (k : Nat) => [n64 ((k : Int) + 1)]) (fun k => ptc b2 34 [n64 0, .slice none 0 0, .slice none 0 0, .slice none 0 0] :: L) (fun k => k ≤ k0) (fun k => k0 - k) (0) (by kernel_rfl) (by (exact Ent.rfl)) (by omega) ?_
      rintro k g2
      conv => whnf
      repeat (intro _; conv => whnf)
      have hbk := hbd (k + 1) (by omega)
      have hqk := hq4 (k + 1) (by omega)
      have hsk := fun L h => hsm ((k : Int) + 1) (k + 1) L (by omega) (by omega) h
      by_cases hk2 : k < k0
      · have hpk := hp k hk2
        clear hp hb hsm hbd hq4
        conv => whnf
        repeat' (first
          | (first | ((with_reducible refine Br.ff ?_); conv => whnf) | ((with_reducible refine Br.dt ?_ ?_); (focus (first | assumption | omega)); conv => whnf) | ((with_reducible refine Br.df ?_ ?_); (focus (first | assumption | omega)); conv => whnf))
          | ((with_reducible refine Ar.i64 ?_ ?_); (focus omega); conv => whnf)
          | ((with_reducible refine Nd.mk ?_ ?_); (focus (first | omega | rfl | assumption | (simp; done))); conv => whnf)
          | ((with_reducible refine Nc.go' (fun _ => ?_)); conv => whnf)
          | (refine Ld.at 0 rfl rfl ?_; conv => whnf)
          | (refine St.at 0 rfl (by first | exact Nat.le_of_ble_eq_true rfl | (simp; done)) rfl ?_; conv => whnf)
          | ((with_reducible refine Cl.is (hsk _ (by ((repeat (first | assumption | apply Rd.cons)); done))) ?_); conv => whnf))
        refine ⟨k + 1, by kernel_rfl, by (refine FEnt.ent ?_; (repeat (first | exact FEnt.rfl | (refine FEnt.at 1 rfl ?_; (try simp only [List.eraseIdx_cons_zero, List.eraseIdx_cons_succ, List.eraseIdx_zero, List.tail_cons])) | refine FEnt.drop ?_)); done), by omega, by omega⟩
      · have ei : k = k0 := by omega
        subst ei
        clear hp hsm hbd hq4
        conv => whnf
        repeat' (first
          | (first | ((with_reducible refine Br.tt ?_); conv => whnf) | ((with_reducible refine Br.ff ?_); conv => whnf) | ((with_reducible refine Br.dt ?_ ?_); (focus (first | assumption | omega)); conv => whnf) | ((with_reducible refine Br.df ?_ ?_); (focus (first | assumption | omega)); conv => whnf))
          | ((with_reducible refine Ar.i64 ?_ ?_); (focus omega); conv => whnf)
          | ((with_reducible refine Nd.mk ?_ ?_); (focus (first | omega | rfl | assumption | (simp; done))); conv => whnf)
          | ((with_reducible refine Nc.go' (fun _ => ?_)); conv => whnf)
          | (refine Ld.at 0 rfl rfl ?_; conv => whnf)
          | (refine LdN.at 1 rfl (by first | exact Nat.le_of_ble_eq_true rfl | (simp; done)) ?_; conv => whnf)
          | (first | (refine St.at 0 rfl (by first | exact Nat.le_of_ble_eq_true rfl | (simp; done)) rfl ?_; conv => whnf) | (refine St.at 1 rfl (by first | exact Nat.le_of_ble_eq_true rfl | (simp; done)) rfl ?_; conv => whnf))
          | ((with_reducible refine Cl.is (hsk _ (by ((repeat (first | assumption | apply Rd.cons)); done))) ?_); conv => whnf))
        all_goals first | (refine Is.ent ?_ ?_; (focus (refine FEnt.ent ?_; (repeat (first | exact FEnt.rfl | refine FEnt.drop ?_)); done)); (exact Is.rfl)) | (exfalso; omega)
end Go.Proofs
