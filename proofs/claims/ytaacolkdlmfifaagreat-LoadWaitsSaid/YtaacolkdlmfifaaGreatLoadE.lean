/- How long one waits for the bus: what is the document's. -/
import Derived.Test.YtaacolkdlmfifaaGreatLoadC
set_option linter.all false
namespace Go.Proofs
open Go.Eng
open Classical
set_option linter.unusedVariables false
set_option maxRecDepth 100000
set_option maxHeartbeats 2000000
theorem Tryz.refAsk (C : Cfg) (w : Int) (L : List HP) (hB : CfB C) (h1 : Rd slE L C.wa C.ws) (h2 : Rd slE L C.sa C.ss) (h3 : Rd clE L C.ca C.xs) :
    Con Tryz.prog 7 [cfV C, n64 w] L (Is (n64 (if Right C then if 1 ≤ w ∧ w ≤ C.xs.length then 0 else 7 else 11)) L) := by
  have hf := fun L hw hs hc => Tryz.refFaults C L hB hw hs hc
  by_cases hR : Right C
  · rw [if_pos hR]
    have h8 := hR.f.2.2.2.1
    by_cases hw : 1 ≤ w ∧ w ≤ C.xs.length
    · rw [if_pos hw]
      refine con_of Tryz.tysOk Tryz.func7 rfl rfl ?_
      conv => whnf
      repeat' (first
        | (first | ((with_reducible refine Br.ff ?_); conv => whnf) | ((with_reducible refine Br.df ?_ ?_); (focus (first | assumption | omega)); conv => whnf) | ((with_reducible refine Br.no ?_ ?_); (focus (first | (simp; done) | (simp; omega))); conv => whnf))
        | ((with_reducible refine Nc.go' (fun _ => ?_)); conv => whnf)
        | (refine Ld.at 0 rfl rfl ?_; conv => whnf)
        | (refine LdN.at 0 rfl (by first | exact Nat.le_of_ble_eq_true rfl | (simp; done)) ?_; conv => whnf)
        | ((with_reducible refine (?_ : Cl _ 12 _ _ _ _)); (refine Cl.exs (hf _ (by ((repeat (first | assumption | apply Rd.cons)); done)) (by ((repeat (first | assumption | apply Rd.cons)); done)) (by ((repeat (first | assumption | apply Rd.cons)); done))) ?_; rintro ⟨a2, c2, f2⟩ ⟨hl, he⟩; obtain rfl : f2 = [] := he.2 hR); conv => whnf))
      all_goals first | (refine Is.ent ?_ ?_; (focus (refine FEnt.ent ?_; (repeat (first | exact FEnt.rfl | refine FEnt.drop ?_)); done)); (exact Is.rfl)) | (exfalso; omega)
    · rw [if_neg hw]
      refine con_of Tryz.tysOk Tryz.func7 rfl rfl ?_
      conv => whnf
      repeat' (first
        | (first | ((with_reducible refine Br.tt ?_); conv => whnf) | ((with_reducible refine Br.ff ?_); conv => whnf) | ((with_reducible refine Br.dt ?_ ?_); (focus (first | assumption | omega)); conv => whnf) | ((with_reducible refine Br.no ?_ ?_); (focus (first | (simp; done) | (simp; omega))); conv => whnf))
        | ((with_reducible refine Nc.go' (fun _ => ?_)); conv => whnf)
        | (refine Ld.at 0 rfl rfl ?_; conv => whnf)
        | (refine LdN.at 0 rfl (by first | exact Nat.le_of_ble_eq_true rfl | (simp; done)) ?_; conv => whnf)
        | ((with_reducible refine (?_ : Cl _ 12 _ _ _ _)); (refine Cl.exs (hf _ (by ((repeat (first | assumption | apply Rd.cons)); done)) (by ((repeat (first | assumption | apply Rd.cons)); done)) (by ((repeat (first | assumption | apply Rd.cons)); done))) ?_; rintro ⟨a2, c2, f2⟩ ⟨hl, he⟩; obtain rfl : f2 = [] := he.2 hR); conv => whnf)
        | ((with_reducible refine Br.ds (fun _ => ?_) (fun _ => ?_) ) <;> (conv => whnf)))
      all_goals first | (refine Is.ent ?_ ?_; (focus (refine FEnt.ent ?_; (repeat (first | exact FEnt.rfl | refine FEnt.drop ?_)); done)); (exact Is.rfl)) | (exfalso; omega)
  · rw [if_neg hR]
    refine con_of Tryz.tysOk Tryz.func7 rfl rfl ?_
    conv => whnf
    repeat' (first
      | ((with_reducible refine Br.yes ?_ ?_); (focus (first | (simp; done) | (simp; omega))); conv => whnf)
      | ((with_reducible refine Nc.go' (fun _ => ?_)); conv => whnf)
      | (refine LdN.at 0 rfl (by first | exact Nat.le_of_ble_eq_true rfl | (simp; done)) ?_; conv => whnf)
      | ((with_reducible refine (?_ : Cl _ 12 _ _ _ _)); (refine Cl.exs (hf _ (by ((repeat (first | assumption | apply Rd.cons)); done)) (by ((repeat (first | assumption | apply Rd.cons)); done)) (by ((repeat (first | assumption | apply Rd.cons)); done))) ?_; rintro ⟨a2, c2, f2⟩ ⟨hl, he⟩; have hpos : 0 < f2.length := List.length_pos_iff.2 (fun h => hR (he.1 h)); dsimp only at hl); conv => whnf))
    all_goals first | (refine Is.ent ?_ ?_; (focus (refine FEnt.ent ?_; (repeat (first | exact FEnt.rfl | refine FEnt.drop ?_)); done)); (exact Is.rfl)) | (exfalso; omega)
theorem Tryz.refWait (C : Cfg) (w o d : Int) (L : List HP) (hR : Right C) (ho : 0 ≤ o ∧ o < C.F) (hd : WaitP C.F C.ss w o d) (h2 : Rd slE L C.sa C.ss) :
    Con Tryz.prog 9 [cfV C, n64 w, n64 o] L (Is (n64 d) L) := by
  have hf := hR.f
  have hb := fun t L (ht : 0 ≤ t ∧ t ≤ 9223372036854775807) h => Tryz.refBegins C.F t w C.sa C.sc C.ss L (by omega) ⟨by omega, by omega⟩ (right_slots hR) ht h
  have hFF : 1 ≤ C.F ∧ C.F ≤ 4096 := ⟨hf.1, hf.2.1⟩
  clear hf
  obtain ⟨d1, d2, d3, d4⟩ := hd
  refine con_of Tryz.tysOk Tryz.func9 rfl rfl ?_
  conv => whnf
  repeat' ((with_reducible refine Nc.go' (fun _ => ?_)); conv => whnf)
  rename_i b3
  conv => whnf
  refine Lp.by Tryz.tysOk [7] (fun (k : Int) => [n64 k]) (fun k => ptc b3 26 (cfC C) :: L) (fun k => 0 ≤ k ∧ k ≤ d) (fun k => (d - k).toNat) (0) (by kernel_rfl) (by (exact Ent.rfl)) (⟨by omega, by omega⟩) ?_
  rintro k ⟨g1, g2⟩
  conv => whnf
  repeat (intro _; conv => whnf)
  by_cases hk : k < d
  · have hno := d4 k g1 hk
    conv => whnf
    repeat' (first
      | ((with_reducible refine Br.nf ?_); conv => whnf)
      | ((with_reducible refine Ar.i64 ?_ ?_); (focus omega); conv => whnf)
      | (refine Ld.at 0 rfl rfl ?_; conv => whnf)
      | ((with_reducible refine Cl.is (Con.df hno (hb (o + k) _ ⟨by omega, by omega⟩ (by ((repeat (first | assumption | apply Rd.cons)); done)))) ?_); conv => whnf))
    refine ⟨k + 1, by kernel_rfl, by (exact Ent.rfl), ⟨by omega, by omega⟩, by omega⟩
  · have e : k = d := by omega
    subst e
    conv => whnf
    repeat' (first
      | ((with_reducible refine Br.nt ?_); conv => whnf)
      | ((with_reducible refine Ar.i64 ?_ ?_); (focus omega); conv => whnf)
      | (refine Ld.at 0 rfl rfl ?_; conv => whnf)
      | ((with_reducible refine Cl.is (Con.dt d3 (hb (o + k) _ ⟨by omega, by omega⟩ (by ((repeat (first | assumption | apply Rd.cons)); done)))) ?_); conv => whnf))
    all_goals (refine Is.ent ?_ ?_; (focus (refine FEnt.ent ?_; (repeat (first | exact FEnt.rfl | refine FEnt.drop ?_)); done)); (exact Is.rfl))
theorem Tryz.loadWait (C : Cfg) (w o d : Int) (L : List HP) (hB : CfB C) (hR : Right C) (hw : 1 ≤ w ∧ w ≤ C.xs.length) (ho : 0 ≤ o ∧ o < C.F) (hd : WaitP C.F C.ss w o d) (h1 : Rd slE L C.wa C.ws) (h2 : Rd slE L C.sa C.ss) (h3 : Rd clE L C.ca C.xs) :
    Con Tryz.prog 5 [cfV C, n64 w, n64 o] L (Is (.tuple #[n64 d, n64 0]) L) := by
  have htb := fun L h1 h2 h3 => Tryz.loadTable C w L hB hR hw h1 h2 h3
  have hf := hR.f
  have hFF : 1 ≤ C.F ∧ C.F ≤ 4096 := ⟨hf.1, hf.2.1⟩
  obtain ⟨d', hd', hT⟩ := wait_ex (n := C.F) (w := w) (o := o) ⟨by omega, by omega⟩ (right_slots hR) ho (right_units hR hw)
  obtain rfl := hd'.uniq hd
  have hnx := fun b a c L (had : Ad a C.ss.length) => Tryz.slNext b C.F o w (o + d') a c C.ss L (by omega) ⟨by omega, by omega⟩ (right_slots hR) had ⟨ho.1, by omega⟩ hT
  have e : o + d' - o = d' := by omega
  rw [show n64 d' = n64 (o + d' - o) from by rw [e]]
  have g1 := hd'.nn
  have g2 := hd'.lt
  clear hf hT hd hd' e
  refine con_of Tryz.tysOk Tryz.func5 rfl rfl ?_
  conv => whnf
  repeat' (first
    | (first | ((with_reducible refine Br.ff ?_); conv => whnf) | ((with_reducible refine Br.df ?_ ?_); (focus (first | assumption | omega)); conv => whnf) | ((with_reducible refine Br.ndf ?_ ?_); (focus (first | assumption | omega)); conv => whnf))
    | ((with_reducible refine Ar.i64 ?_ ?_); (focus omega); conv => whnf)
    | ((with_reducible refine Nd.mk ?_ ?_); (focus (first | omega | rfl | assumption | (simp; done))); conv => whnf)
    | ((with_reducible refine Nc.go' (fun _ => ?_)); conv => whnf)
    | (refine Ld.at 2 rfl rfl ?_; conv => whnf)
    | (refine LdN.at 0 rfl (by first | exact Nat.le_of_ble_eq_true rfl | (simp; done)) ?_; conv => whnf)
    | (first | ((with_reducible refine (?_ : Cl _ 14 _ _ _ _)); (refine Cl.exs (htb _ (by ((repeat (first | assumption | apply Rd.cons)); done)) (by ((repeat (first | assumption | apply Rd.cons)); done)) (by ((repeat (first | assumption | apply Rd.cons)); done))) ?_; rintro ⟨bt, a2, c2⟩ ⟨hc2, had2⟩); conv => whnf) | ((refine Cl.isAt2 0 0 rfl rfl (hnx _ _ _ _ had2) ?_); conv => whnf)))
  all_goals first | (refine Is.ent ?_ ?_; (focus (refine FEnt.ent ?_; (repeat (first | exact FEnt.rfl | refine FEnt.drop ?_)); done)); (exact Is.rfl)) | (exfalso; omega)
theorem Tryz.loadWaitArg (C : Cfg) (w o : Int) (L : List HP) (hB : CfB C) (hR : Right C) (hw : 1 ≤ w ∧ w ≤ C.xs.length) (ho : ¬ (0 ≤ o ∧ o < C.F)) (h1 : Rd slE L C.wa C.ws) (h2 : Rd slE L C.sa C.ss) (h3 : Rd clE L C.ca C.xs) :
    Con Tryz.prog 5 [cfV C, n64 w, n64 o] L (Is (.tuple #[n64 0, n64 2]) L) := by
  have htb := fun L h1 h2 h3 => Tryz.loadTable C w L hB hR hw h1 h2 h3
  refine con_of Tryz.tysOk Tryz.func5 rfl rfl ?_
  conv => whnf
  repeat' (first
    | (first | ((with_reducible refine Br.tt ?_); conv => whnf) | ((with_reducible refine Br.ff ?_); conv => whnf) | ((with_reducible refine Br.dt ?_ ?_); (focus (first | assumption | omega)); conv => whnf) | ((with_reducible refine Br.ndf ?_ ?_); (focus (first | assumption | omega)); conv => whnf))
    | ((with_reducible refine Nd.mk ?_ ?_); (focus (first | omega | rfl | assumption | (simp; done))); conv => whnf)
    | ((with_reducible refine Nc.go' (fun _ => ?_)); conv => whnf)
    | (refine Ld.at 2 rfl rfl ?_; conv => whnf)
    | (refine LdN.at 0 rfl (by first | exact Nat.le_of_ble_eq_true rfl | (simp; done)) ?_; conv => whnf)
    | ((with_reducible refine (?_ : Cl _ 14 _ _ _ _)); (refine Cl.exs (htb _ (by ((repeat (first | assumption | apply Rd.cons)); done)) (by ((repeat (first | assumption | apply Rd.cons)); done)) (by ((repeat (first | assumption | apply Rd.cons)); done))) ?_; rintro ⟨bt, a2, c2⟩ ⟨hc2, had2⟩); conv => whnf)
    | ((with_reducible refine Br.ds (fun _ => ?_) (fun _ => ?_) ) <;> (conv => whnf)))
  all_goals first | (refine Is.ent ?_ ?_; (focus (refine FEnt.ent ?_; (repeat (first | exact FEnt.rfl | refine FEnt.drop ?_)); done)); (exact Is.rfl)) | (exfalso; omega)
theorem Tryz.loadWaitNo (C : Cfg) (w o e : Int) (L : List HP) (he : e ≠ 0) (htb : ∀ L, Rd slE L C.wa C.ws → Rd slE L C.sa C.ss → Rd clE L C.ca C.xs → Con Tryz.prog 14 [cfV C, n64 w] L (Is (.tuple #[.pointer none, n64 e]) L)) (h1 : Rd slE L C.wa C.ws) (h2 : Rd slE L C.sa C.ss) (h3 : Rd clE L C.ca C.xs) :
    Con Tryz.prog 5 [cfV C, n64 w, n64 o] L (Is (.tuple #[n64 0, n64 e]) L) := by
  refine con_of Tryz.tysOk Tryz.func5 rfl rfl ?_
  conv => whnf
  repeat' (first
    | ((with_reducible refine Br.ndt ?_ ?_); (focus (first | assumption | omega)); conv => whnf)
    | ((with_reducible refine Nd.mk ?_ ?_); (focus (first | omega | rfl | assumption | (simp; done))); conv => whnf)
    | ((with_reducible refine Nc.go' (fun _ => ?_)); conv => whnf)
    | (refine LdN.at 0 rfl (by first | exact Nat.le_of_ble_eq_true rfl | (simp; done)) ?_; conv => whnf)
    | ((with_reducible refine Cl.is (htb _ (by ((repeat (first | assumption | apply Rd.cons)); done)) (by ((repeat (first | assumption | apply Rd.cons)); done)) (by ((repeat (first | assumption | apply Rd.cons)); done))) ?_); conv => whnf))
  all_goals first | (refine Is.ent ?_ ?_; (focus (refine FEnt.ent ?_; (repeat (first | exact FEnt.rfl | refine FEnt.drop ?_)); done)); (exact Is.rfl)) | (exfalso; omega)
def scanP (n : Int) (xs : List Slt) (w k cw ca : Int) : Prop := (k = 0 ∧ cw = -1 ∧ ca = 0) ∨ ((0 < k ∧ ca < k) ∧ TryP n xs w (fun y => 0 ≤ y ∧ y < k) cw ca)
theorem scan_next {n w k cw ca d : Int} {xs : List Slt} (h : scanP n xs w k cw ca) (hk : 0 ≤ k ∧ k < n) (hd : WaitP n xs w k d) : (cw < d → scanP n xs w (k + 1) d k) ∧ (¬ cw < d → scanP n xs w (k + 1) cw ca) := by
  have hn := hd.nn
  rcases h with ⟨h1, h2, h3⟩ | ⟨h1, h2⟩
  · subst h1 h2 h3
    refine ⟨fun _ => .inr ⟨⟨by omega, by omega⟩, ⟨by omega, by omega, hd, fun o e ho he => ?_⟩⟩, fun h => by omega⟩
    have : o = 0 := by omega
    subst this
    exact .inr ⟨he.uniq hd, by omega⟩
  · constructor
    · intro hlt
      refine .inr ⟨⟨by omega, by omega⟩, ⟨by omega, by omega, hd, fun o e ho he => ?_⟩⟩
      by_cases hok : o = k
      · subst hok
        exact .inr ⟨he.uniq hd, by omega⟩
      · have := h2.best o e ⟨ho.1, by omega⟩ he
        omega
    · intro hlt
      refine .inr ⟨⟨by omega, by omega⟩, ⟨h2.nn, h2.lt, h2.is, fun o e ho he => ?_⟩⟩
      by_cases hok : o = k
      · subst hok
        have := he.uniq hd
        omega
      · exact h2.best o e ⟨ho.1, by omega⟩ he
theorem Tryz.loadWaitsLaw (C : Cfg) (w o : Int) (L : List HP) (hB : CfB C) (hw : I64 w) (ho : I64 o) (h1 : Rd slE L C.wa C.ws) (h2 : Rd slE L C.sa C.ss) (h3 : Rd clE L C.ca C.xs) :
    Con Tryz.prog 3 [cfV C, n64 w, n64 o] L (Is (.bool true) L) := by
  have hask := fun L h1 h2 h3 => Tryz.refAsk C w L hB h1 h2 h3
  by_cases hR : Right C
  · by_cases hw : 1 ≤ w ∧ w ≤ C.xs.length
    · simp only [if_pos hR, if_pos hw] at hask
      have hf := hR.f
      have hFF : 1 ≤ C.F ∧ C.F ≤ 4096 := ⟨hf.1, hf.2.1⟩
      have hok := right_slots hR
      have hne := right_units hR hw
      clear hf
      obtain ⟨W, A, hW⟩ := worst_ex ⟨by omega, by omega⟩ hok hne
      have g1 := hW.is.nn
      have g2 := hW.is.lt
      have hwo := fun L h1 h2 h3 => Tryz.loadWorst C w W A L hB hR hw hW h1 h2 h3
      have hwx := fun o ho => wait_ex (n := C.F) (w := w) (o := o) ⟨by omega, by omega⟩ hok ho hne
      have hrw := fun o d L ho hd h => Tryz.refWait C w o d L hR ho hd h
      obtain ⟨V, U, hV⟩ : ∃ V U, ∀ L, Rd slE L C.wa C.ws → Rd slE L C.sa C.ss → Rd clE L C.ca C.xs → Con Tryz.prog 5 [cfV C, n64 w, n64 o] L (Is (.tuple #[n64 V, n64 U]) L) ∧ (if 0 ≤ o ∧ o < C.F then U = 0 ∧ WaitP C.F C.ss w o V else U = 2 ∧ V = 0) := by
        by_cases hoo : 0 ≤ o ∧ o < C.F
        · obtain ⟨d, hd, _⟩ := hwx o hoo
          exact ⟨d, 0, fun L h1 h2 h3 => ⟨Tryz.loadWait C w o d L hB hR hw hoo hd h1 h2 h3, by rw [if_pos hoo]; exact ⟨rfl, hd⟩⟩⟩
        · exact ⟨0, 2, fun L h1 h2 h3 => ⟨Tryz.loadWaitArg C w o L hB hR hw hoo h1 h2 h3, by rw [if_neg hoo]; exact ⟨rfl, rfl⟩⟩⟩
      have hV2 := (hV L h1 h2 h3).2
      have hV1 := fun L h1 h2 h3 => (hV L h1 h2 h3).1
      clear hne hok hV
      by_cases h300 : C.F ≤ 300
      · refine con_of Tryz.tysOk Tryz.func3 rfl rfl ?_
        conv => whnf
        repeat' (first
          | (first | ((with_reducible refine Br.df ?_ ?_); (focus (first | assumption | omega)); conv => whnf) | ((with_reducible refine Br.ndf ?_ ?_); (focus (first | assumption | omega)); conv => whnf))
          | ((with_reducible refine Nd.mk ?_ ?_); (focus (first | omega | rfl | assumption | (simp; done))); conv => whnf)
          | ((with_reducible refine Nc.go' (fun _ => ?_)); conv => whnf)
          | (refine Ld.at 0 rfl rfl ?_; conv => whnf)
          | (refine LdN.at 0 rfl (by first | exact Nat.le_of_ble_eq_true rfl | (simp; done)) ?_; conv => whnf)
          | (first | ((with_reducible refine Cl.is (hV1 _ (by ((repeat (first | assumption | apply Rd.cons)); done)) (by ((repeat (first | assumption | apply Rd.cons)); done)) (by ((repeat (first | assumption | apply Rd.cons)); done))) ?_); conv => whnf) | ((with_reducible refine Cl.is (hwo _ (by ((repeat (first | assumption | apply Rd.cons)); done)) (by ((repeat (first | assumption | apply Rd.cons)); done)) (by ((repeat (first | assumption | apply Rd.cons)); done))) ?_); conv => whnf) | ((with_reducible refine Cl.is (hask _ (by ((repeat (first | assumption | apply Rd.cons)); done)) (by ((repeat (first | assumption | apply Rd.cons)); done)) (by ((repeat (first | assumption | apply Rd.cons)); done))) ?_); conv => whnf)))
        rename_i b3
        conv => whnf
        refine Lp.by3 Tryz.tysOk [13, 14, 15] (fun (k : Int) (cw ca : Int) => [n64 cw, n64 ca, n64 k]) (fun k cw ca => ptc b3 26 (cfC C) :: L) (fun k cw ca => (0 ≤ k ∧ k ≤ C.F) ∧ scanP C.F C.ss w k cw ca) (fun k cw ca => (C.F - k).toNat) (0) (-1) (0) (by kernel_rfl) (by (exact Ent.rfl)) (⟨by omega, .inl ⟨rfl, rfl, rfl⟩⟩) ?_
        rintro k cw ca ⟨q1, q2⟩
        conv => whnf
        repeat (intro _; conv => whnf)
        by_cases hk : k < C.F
        · obtain ⟨d, hd, _⟩ := hwx k ⟨q1.1, hk⟩
          have hnx := scan_next q2 ⟨q1.1, hk⟩ hd
          by_cases hlt : cw < d
          · have hn1 := hnx.1 hlt
            conv => whnf
            repeat' (first
              | ((with_reducible refine Br.dt ?_ ?_); (focus (first | assumption | omega)); conv => whnf)
              | ((with_reducible refine Ar.i64 ?_ ?_); (focus omega); conv => whnf)
              | (refine Ld.at 0 rfl rfl ?_; conv => whnf)
              | (refine LdN.at 0 rfl (by first | exact Nat.le_of_ble_eq_true rfl | (simp; done)) ?_; conv => whnf)
              | ((with_reducible refine Cl.is (hrw k d _ ⟨q1.1, hk⟩ hd (by ((repeat (first | assumption | apply Rd.cons)); done))) ?_); conv => whnf))
            all_goals exact ⟨k + 1, d, k, by kernel_rfl, by (exact Ent.rfl), ⟨by omega, hn1⟩, by omega⟩
          · have hn2 := hnx.2 hlt
            conv => whnf
            repeat' (first
              | (first | ((with_reducible refine Br.dt ?_ ?_); (focus (first | assumption | omega)); conv => whnf) | ((with_reducible refine Br.df ?_ ?_); (focus (first | assumption | omega)); conv => whnf))
              | ((with_reducible refine Ar.i64 ?_ ?_); (focus omega); conv => whnf)
              | (refine Ld.at 0 rfl rfl ?_; conv => whnf)
              | (refine LdN.at 0 rfl (by first | exact Nat.le_of_ble_eq_true rfl | (simp; done)) ?_; conv => whnf)
              | ((with_reducible refine Cl.is (hrw k d _ ⟨q1.1, hk⟩ hd (by ((repeat (first | assumption | apply Rd.cons)); done))) ?_); conv => whnf))
            all_goals exact ⟨k + 1, cw, ca, by kernel_rfl, by (exact Ent.rfl), ⟨by omega, hn2⟩, by omega⟩
        · have e : k = C.F := by omega
          subst e
          have hq : TryP C.F C.ss w (fun y => 0 ≤ y ∧ y < C.F) cw ca := by
            rcases q2 with ⟨h, _⟩ | ⟨_, h⟩
            · omega
            · exact h
          have r1 := hq.best A W ⟨hW.nn, hW.lt⟩ hW.is
          have r2 := hW.best ca cw hq.nn hq.lt hq.is
          have e1 : cw = W := by omega
          have e2 : ca = A := by omega
          subst e1 e2
          by_cases hoo : 0 ≤ o ∧ o < C.F
          · rw [if_pos hoo] at hV2
            obtain ⟨rfl, hVw⟩ := hV2
            conv => whnf
            repeat' (first
              | (first | ((with_reducible refine Br.tt ?_); conv => whnf) | ((with_reducible refine Br.ff ?_); conv => whnf) | ((with_reducible refine Br.dt ?_ ?_); (focus (first | assumption | omega)); conv => whnf) | ((with_reducible refine Br.df ?_ ?_); (focus (first | assumption | omega)); conv => whnf) | ((with_reducible refine Br.ndf ?_ ?_); (focus (first | assumption | omega)); conv => whnf))
              | (refine Ld.at 0 rfl rfl ?_; conv => whnf)
              | (refine LdN.at 0 rfl (by first | exact Nat.le_of_ble_eq_true rfl | (simp; done)) ?_; conv => whnf)
              | (first | ((with_reducible refine Cl.is (Tryz.loadLive _) ?_); conv => whnf) | ((with_reducible refine Cl.is (hrw o V _ hoo hVw (by ((repeat (first | assumption | apply Rd.cons)); done))) ?_); conv => whnf)))
            all_goals first | (refine Is.ent ?_ ?_; (focus (refine FEnt.ent ?_; (repeat (first | exact FEnt.rfl | refine FEnt.drop ?_)); done)); (exact Is.ttr (by first | assumption | omega))) | (exfalso; omega)
          · rw [if_neg hoo] at hV2
            obtain ⟨rfl, rfl⟩ := hV2
            conv => whnf
            repeat' (first
              | (first | ((with_reducible refine Br.tt ?_); conv => whnf) | ((with_reducible refine Br.ff ?_); conv => whnf) | ((with_reducible refine Br.dt ?_ ?_); (focus (first | assumption | omega)); conv => whnf) | ((with_reducible refine Br.df ?_ ?_); (focus (first | assumption | omega)); conv => whnf) | ((with_reducible refine Br.ndf ?_ ?_); (focus (first | assumption | omega)); conv => whnf))
              | (refine Ld.at 0 rfl rfl ?_; conv => whnf)
              | ((with_reducible refine Cl.is (Tryz.loadLive _) ?_); conv => whnf)
              | ((with_reducible refine Br.ds (fun _ => ?_) (fun _ => ?_) ) <;> (conv => whnf)))
            all_goals first | (refine Is.ent ?_ ?_; (focus (refine FEnt.ent ?_; (repeat (first | exact FEnt.rfl | refine FEnt.drop ?_)); done)); (exact Is.rfl)) | (exfalso; omega)
      · refine con_of Tryz.tysOk Tryz.func3 rfl rfl ?_
        conv => whnf
        repeat' (first
          | (first | ((with_reducible refine Br.tt ?_); conv => whnf) | ((with_reducible refine Br.dt ?_ ?_); (focus (first | assumption | omega)); conv => whnf) | ((with_reducible refine Br.ndf ?_ ?_); (focus (first | assumption | omega)); conv => whnf))
          | ((with_reducible refine Nd.mk ?_ ?_); (focus (first | omega | rfl | assumption | (simp; done))); conv => whnf)
          | ((with_reducible refine Nc.go' (fun _ => ?_)); conv => whnf)
          | (refine Ld.at 0 rfl rfl ?_; conv => whnf)
          | (refine LdN.at 0 rfl (by first | exact Nat.le_of_ble_eq_true rfl | (simp; done)) ?_; conv => whnf)
          | (first | ((with_reducible refine Cl.is (hV1 _ (by ((repeat (first | assumption | apply Rd.cons)); done)) (by ((repeat (first | assumption | apply Rd.cons)); done)) (by ((repeat (first | assumption | apply Rd.cons)); done))) ?_); conv => whnf) | ((with_reducible refine Cl.is (hwo _ (by ((repeat (first | assumption | apply Rd.cons)); done)) (by ((repeat (first | assumption | apply Rd.cons)); done)) (by ((repeat (first | assumption | apply Rd.cons)); done))) ?_); conv => whnf) | ((with_reducible refine Cl.is (hask _ (by ((repeat (first | assumption | apply Rd.cons)); done)) (by ((repeat (first | assumption | apply Rd.cons)); done)) (by ((repeat (first | assumption | apply Rd.cons)); done))) ?_); conv => whnf) | ((with_reducible refine Cl.is (Tryz.loadLive _) ?_); conv => whnf)))
        all_goals (refine Is.ent ?_ ?_; (focus (refine FEnt.ent ?_; (repeat (first | exact FEnt.rfl | refine FEnt.drop ?_)); done)); (exact Is.ttr (by first | assumption | omega)))
    · simp only [if_pos hR, if_neg hw] at hask
      have htn := fun L h1 h2 h3 => Tryz.loadTableNo2 C w L hB hR hw h1 h2 h3
      have hwn := fun L h1 h2 h3 => Tryz.loadWaitNo C w o 7 L (by decide) htn h1 h2 h3
      have hon := fun L h1 h2 h3 => Tryz.loadWorstNo C w 7 L (by decide) htn h1 h2 h3
      refine con_of Tryz.tysOk Tryz.func3 rfl rfl ?_
      conv => whnf
      repeat' (first
        | (first | ((with_reducible refine Br.tt ?_); conv => whnf) | ((with_reducible refine Br.dt ?_ ?_); (focus (first | assumption | omega)); conv => whnf) | ((with_reducible refine Br.ndt ?_ ?_); (focus (first | assumption | omega)); conv => whnf))
        | ((with_reducible refine Ar.i64 ?_ ?_); (focus omega); conv => whnf)
        | ((with_reducible refine Nd.mk ?_ ?_); (focus (first | omega | rfl | assumption | (simp; done))); conv => whnf)
        | ((with_reducible refine Nc.go' (fun _ => ?_)); conv => whnf)
        | (refine LdN.at 0 rfl (by first | exact Nat.le_of_ble_eq_true rfl | (simp; done)) ?_; conv => whnf)
        | (first | ((with_reducible refine Cl.is (hwn _ (by ((repeat (first | assumption | apply Rd.cons)); done)) (by ((repeat (first | assumption | apply Rd.cons)); done)) (by ((repeat (first | assumption | apply Rd.cons)); done))) ?_); conv => whnf) | ((with_reducible refine Cl.is (hon _ (by ((repeat (first | assumption | apply Rd.cons)); done)) (by ((repeat (first | assumption | apply Rd.cons)); done)) (by ((repeat (first | assumption | apply Rd.cons)); done))) ?_); conv => whnf) | ((with_reducible refine Cl.is (hask _ (by ((repeat (first | assumption | apply Rd.cons)); done)) (by ((repeat (first | assumption | apply Rd.cons)); done)) (by ((repeat (first | assumption | apply Rd.cons)); done))) ?_); conv => whnf) | ((with_reducible refine Cl.is (Tryz.loadLive _) ?_); conv => whnf)))
      all_goals (refine Is.ent ?_ ?_; (focus (refine FEnt.ent ?_; (repeat (first | exact FEnt.rfl | refine FEnt.drop ?_)); done)); (exact Is.rfl))
  · simp only [if_neg hR] at hask
    have htn := fun L h1 h2 h3 => Tryz.loadTableNo C w L hB hR h1 h2 h3
    have hwn := fun L h1 h2 h3 => Tryz.loadWaitNo C w o 11 L (by decide) htn h1 h2 h3
    have hon := fun L h1 h2 h3 => Tryz.loadWorstNo C w 11 L (by decide) htn h1 h2 h3
    refine con_of Tryz.tysOk Tryz.func3 rfl rfl ?_
    conv => whnf
    repeat' (first
      | (first | ((with_reducible refine Br.tt ?_); conv => whnf) | ((with_reducible refine Br.dt ?_ ?_); (focus (first | assumption | omega)); conv => whnf) | ((with_reducible refine Br.ndt ?_ ?_); (focus (first | assumption | omega)); conv => whnf))
      | ((with_reducible refine Ar.i64 ?_ ?_); (focus omega); conv => whnf)
      | ((with_reducible refine Nd.mk ?_ ?_); (focus (first | omega | rfl | assumption | (simp; done))); conv => whnf)
      | ((with_reducible refine Nc.go' (fun _ => ?_)); conv => whnf)
      | (refine LdN.at 0 rfl (by first | exact Nat.le_of_ble_eq_true rfl | (simp; done)) ?_; conv => whnf)
      | (first | ((with_reducible refine Cl.is (hwn _ (by ((repeat (first | assumption | apply Rd.cons)); done)) (by ((repeat (first | assumption | apply Rd.cons)); done)) (by ((repeat (first | assumption | apply Rd.cons)); done))) ?_); conv => whnf) | ((with_reducible refine Cl.is (hon _ (by ((repeat (first | assumption | apply Rd.cons)); done)) (by ((repeat (first | assumption | apply Rd.cons)); done)) (by ((repeat (first | assumption | apply Rd.cons)); done))) ?_); conv => whnf) | ((with_reducible refine Cl.is (hask _ (by ((repeat (first | assumption | apply Rd.cons)); done)) (by ((repeat (first | assumption | apply Rd.cons)); done)) (by ((repeat (first | assumption | apply Rd.cons)); done))) ?_); conv => whnf) | ((with_reducible refine Cl.is (Tryz.loadLive _) ?_); conv => whnf)))
    all_goals (refine Is.ent ?_ ?_; (focus (refine FEnt.ent ?_; (repeat (first | exact FEnt.rfl | refine FEnt.drop ?_)); done)); (exact Is.rfl))
end Go.Proofs
