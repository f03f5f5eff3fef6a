/- How long one waits for the bus: contracts, and what must be whatever is asked. -/
import Derived.Test.YtaacolkdlmfifaaGreatLoadB
set_option linter.all false
namespace Go.Proofs
open Go.Eng
open Classical
set_option linter.unusedVariables false
set_option maxRecDepth 100000
set_option maxHeartbeats 2000000
/-- the best of those that were tried -/
structure TryP (n : Int) (xs : List Slt) (w : Int) (t : Int → Prop) (cw ca : Int) : Prop where
  nn : 0 ≤ ca
  lt : ca < n
  is : WaitP n xs w ca cw
  best : ∀ o d, t o → WaitP n xs w o d → d < cw ∨ (d = cw ∧ ca ≤ o)
def tried (n : Int) (ss : List Int) (k : Nat) (o : Int) : Prop := o = 0 ∨ ∃ i, i < k ∧ o = (ss.getD i intE.d + 1) % n
theorem try_next {n w cw ca o d : Int} {xs : List Slt} {t u : Int → Prop} (h : TryP n xs w t cw ca) (ho : 0 ≤ o ∧ o < n) (hd : WaitP n xs w o d) (hu : ∀ x, u x → t x ∨ x = o) :
    TryP n xs w u (if cw < d ∨ (d = cw ∧ o < ca) then (d, o) else (cw, ca)).1 (if cw < d ∨ (d = cw ∧ o < ca) then (d, o) else (cw, ca)).2 := by
  have hb : ∀ o' d' : Int, u o' → WaitP n xs w o' d' → (d' < cw ∨ (d' = cw ∧ ca ≤ o')) ∨ (o' = o ∧ d' = d) := fun o' d' h1 h2 => by
    rcases hu o' h1 with h3 | h3
    · exact .inl (h.best o' d' h3 h2)
    · subst h3; exact .inr ⟨rfl, h2.uniq hd⟩
  split
  · exact ⟨ho.1, ho.2, hd, fun o' d' h1 h2 => by have := hb o' d' h1 h2; simp only; omega⟩
  · exact ⟨h.nn, h.lt, h.is, fun o' d' h1 h2 => by have := hb o' d' h1 h2; simp only; omega⟩
theorem Tryz.loadWorst (C : Cfg) (w W A : Int) (L : List HP) (hB : CfB C) (hR : Right C) (hw : 1 ≤ w ∧ w ≤ C.xs.length) (hW : WorstP C.F C.ss w W A) (h1 : Rd slE L C.wa C.ws) (h2 : Rd slE L C.sa C.ss) (h3 : Rd clE L C.ca C.xs) :
    Con Tryz.prog 6 [cfV C, n64 w] L (Is (.tuple #[n64 W, n64 A, n64 0]) L) := by
  have htb := fun L h1 h2 h3 => Tryz.loadTable C w L hB hR hw h1 h2 h3
  have hf := hR.f
  have hok := right_slots hR
  have hne := right_units hR hw
  have hst := fun b a c L (had : Ad a C.ss.length) => Tryz.slStarts b C.F w a c C.ss L (by omega) ⟨by omega, by omega⟩ hok had
  rw [starts_eq hok] at hst
  have htr := fun o d cw ca b7 b3 b9 b10 bt a c L ho hd hc had hT q hq => Tryz.loadTry C.F w o d cw ca b7 b3 b9 b10 bt a c C.ss L (by omega) ⟨by omega, by omega⟩ hok had ho hd hc hT q hq
  have hwx := fun o ho => wait_ex (n := C.F) (w := w) (o := o) ⟨by omega, by omega⟩ hok ho hne
  have hfrom := worst_from ⟨by omega, by omega⟩ hok hne hW
  have hdl := docS_len C.F.toNat C.ss w
  have hbd : ∀ o ∈ docS C.F.toNat C.ss w, 0 ≤ o ∧ o < C.F := fun o ho => by have := docS_mem.1 ho; omega
  have hFF : 1 ≤ C.F ∧ C.F ≤ 4096 := ⟨hf.1, hf.2.1⟩
  clear hf hne hok
  generalize docS C.F.toNat C.ss w = ds at *
  obtain ⟨d0, hd0, hT0⟩ := hwx 0 ⟨by omega, by omega⟩
  have hz1 := hd0.nn
  have hz2 := hd0.lt
  have c0 := fun b7 b3 b9 b10 bt a c L had => htr 0 d0 (-1) 0 b7 b3 b9 b10 bt a c L ⟨by omega, by omega⟩ ⟨hz1, hz2⟩ ⟨by omega, by omega⟩ had hT0 (d0, 0) (by rw [if_pos (.inl (by omega))])
  refine con_of Tryz.tysOk Tryz.func6 rfl rfl ?_
  conv => whnf
  repeat' (first
    | ((with_reducible refine Br.ndf ?_ ?_); (focus (first | assumption | omega)); conv => whnf)
    | ((with_reducible refine Nd.mk ?_ ?_); (focus (first | omega | rfl | assumption | (simp; done))); conv => whnf)
    | ((with_reducible refine Nc.go' (fun _ => ?_)); conv => whnf)
    | (first | (refine Ld.at 0 rfl rfl ?_; conv => whnf) | (refine Ld.at 2 rfl rfl ?_; conv => whnf) | (refine Ld.at 3 rfl rfl ?_; conv => whnf))
    | (refine LdN.at 1 rfl (by first | exact Nat.le_of_ble_eq_true rfl | (simp; done)) ?_; conv => whnf)
    | (first | (refine St.at 0 rfl (by first | exact Nat.le_of_ble_eq_true rfl | (simp; done)) rfl ?_; conv => whnf) | (refine St.at 1 rfl (by first | exact Nat.le_of_ble_eq_true rfl | (simp; done)) rfl ?_; conv => whnf))
    | (first | ((with_reducible refine (?_ : Cl _ 14 _ _ _ _)); (refine Cl.exs (htb _ (by ((repeat (first | assumption | apply Rd.cons)); done)) (by ((repeat (first | assumption | apply Rd.cons)); done)) (by ((repeat (first | assumption | apply Rd.cons)); done))) ?_; rintro ⟨bt, a2, c2⟩ ⟨hc2, had2⟩); conv => whnf) | ((with_reducible refine (?_ : Cl _ 16 _ _ _ _)); (apply (Cl.pre [ptc _ _ [n64 (-1)], ptc _ _ [n64 0], ptc _ _ [.pointer (some ⟨bt, 0, none⟩)], ptc _ 3 [n64 w], ptc bt _ _, own slE _ a2 c2 C.ss]); (focus ((repeat (first | exact FEnt.rfl | (refine FEnt.at 0 rfl ?_; (try simp only [List.eraseIdx_cons_zero, List.eraseIdx_cons_succ, List.eraseIdx_zero, List.tail_cons])) | (refine FEnt.at 1 rfl ?_; (try simp only [List.eraseIdx_cons_zero, List.eraseIdx_cons_succ, List.eraseIdx_zero, List.tail_cons])) | (refine FEnt.at 2 rfl ?_; (try simp only [List.eraseIdx_cons_zero, List.eraseIdx_cons_succ, List.eraseIdx_zero, List.tail_cons])))); done)); refine Cl.is (c0 _ _ _ _ _ _ _ _ had2) ?_); conv => whnf) | ((refine Cl.new (Con.newAt (perm_at2 4 4 rfl rfl) (hst _ _ _ _ had2)) (fun _ _ _ _ => ?_)); conv => whnf)))
  rename_i b2 b3 b7 b9 b10 a1 c1 hc1 had1
  dsimp only at hc2 had2
  conv => whnf
  refine Lp.by3 Tryz.tysOk [30] (fun (k : Nat) (cw ca : Int) => [.int .i64 k]) (fun k cw ca => own intE 3 a1 c1 ds :: ptc b9 3 [n64 cw] :: ptc b10 3 [n64 ca] :: ptc b7 49 [.pointer (some ⟨bt, 0, none⟩)] :: ptc b3 3 [n64 w] :: ptc b2 26 (cfC C) :: ptc bt 76 [n64 C.F, .slice a2 C.ss.length c2] :: own slE 58 a2 c2 C.ss :: L) (fun k cw ca => k ≤ ds.length ∧ TryP C.F C.ss w (tried C.F ds k) cw ca) (fun k cw ca => ds.length - k) (0) (d0) (0) (by kernel_rfl) (by (refine FEnt.ent ?_; (repeat (first | exact FEnt.rfl | (refine FEnt.at 0 rfl ?_; (try simp only [List.eraseIdx_cons_zero, List.eraseIdx_cons_succ, List.eraseIdx_zero, List.tail_cons])) | (refine FEnt.at 2 rfl ?_; (try simp only [List.eraseIdx_cons_zero, List.eraseIdx_cons_succ, List.eraseIdx_zero, List.tail_cons])))); done)) (⟨by omega, by omega, by omega, hd0, fun o d ht h => ht.elim (fun e => by subst e; exact .inr ⟨h.uniq hd0, by omega⟩) (fun ⟨i, hi, _⟩ => by omega)⟩) ?_
  rintro k cw ca ⟨g1, g2⟩
  conv => whnf
  repeat (intro _; conv => whnf)
  have g3 := g2.is.nn
  have g4 := g2.is.lt
  have g5 := g2.nn
  have g6 := g2.lt
  by_cases hk : k < ds.length
  · have hx := hbd _ (getD_mem (d := intE.d) hk)
    have et : (ds.getD k intE.d + 1).tmod C.F = (ds.getD k intE.d + 1) % C.F := Int.tmod_eq_emod_of_nonneg (by omega)
    have hq := qr (n := ds.getD k intE.d + 1) (f := C.F) (by omega)
    have ho : 0 ≤ (ds.getD k intE.d + 1).tmod C.F ∧ (ds.getD k intE.d + 1).tmod C.F < C.F := by rw [et]; exact ⟨hq.2.1, hq.2.2⟩
    clear hq
    obtain ⟨d, hd, hT⟩ := hwx _ ho
    have c1' := fun L => htr _ d cw ca b7 b3 b9 b10 bt a2 c2 L ho ⟨hd.nn, hd.lt⟩ ⟨by omega, by omega⟩ had2 hT _ rfl
    have hnx := try_next (u := tried C.F ds (k + 1)) g2 ho hd (fun x hx => hx.elim (fun e => .inl (.inl e)) (fun ⟨i, hi, e⟩ => if h : i < k then .inl (.inr ⟨i, h, e⟩) else .inr (by
      have : i = k := by omega
      subst this
      rw [e, et])))
    generalize (if cw < d ∨ (d = cw ∧ (ds.getD k intE.d + 1).tmod C.F < ca) then (d, (ds.getD k intE.d + 1).tmod C.F) else (cw, ca)) = q at *
    conv => whnf
    repeat' (first
      | ((with_reducible refine Br.dt ?_ ?_); (focus (first | assumption | omega)); conv => whnf)
      | ((with_reducible refine Ar.i64 ?_ ?_); (focus omega); conv => whnf)
      | ((with_reducible refine Nd.mk ?_ ?_); (focus (first | omega | rfl | assumption | (simp; done))); conv => whnf)
      | ((with_reducible refine Ix.ad ?_ ?_ ?_); (focus (assumption)); (focus (omega)); conv => whnf)
      | (first | ((with_reducible apply Ld.rdk0); (focus ((repeat ((refine Rd.own 0 rfl ?_); (assumption))); done)); (focus rfl); (focus (omega)); (focus rfl); conv => whnf) | (refine Ld.at 5 rfl rfl ?_; conv => whnf))
      | ((with_reducible refine (?_ : Cl _ 16 _ _ _ _)); (apply (Cl.pre [ptc b9 _ _, ptc b10 _ _, ptc b7 _ _, ptc b3 _ _, ptc bt _ _, own slE _ a2 c2 C.ss]); (focus ((repeat (first | exact FEnt.rfl | (refine FEnt.at 1 rfl ?_; (try simp only [List.eraseIdx_cons_zero, List.eraseIdx_cons_succ, List.eraseIdx_zero, List.tail_cons])) | (refine FEnt.at 2 rfl ?_; (try simp only [List.eraseIdx_cons_zero, List.eraseIdx_cons_succ, List.eraseIdx_zero, List.tail_cons])))); done)); refine Cl.is (c1' _) ?_); conv => whnf))
    all_goals first | omega | exact ⟨k + 1, q.1, q.2, by kernel_rfl, by (refine FEnt.ent ?_; (repeat (first | exact FEnt.rfl | (refine FEnt.at 0 rfl ?_; (try simp only [List.eraseIdx_cons_zero, List.eraseIdx_cons_succ, List.eraseIdx_zero, List.tail_cons])) | (refine FEnt.at 2 rfl ?_; (try simp only [List.eraseIdx_cons_zero, List.eraseIdx_cons_succ, List.eraseIdx_zero, List.tail_cons])) | (refine FEnt.at 6 rfl ?_; (try simp only [List.eraseIdx_cons_zero, List.eraseIdx_cons_succ, List.eraseIdx_zero, List.tail_cons])))); done), ⟨by omega, hnx⟩, by omega⟩
  · have e : k = ds.length := by omega
    subst e
    have r1 := g2.best A W (hfrom.elim (fun h => .inl h) (fun ⟨s, hs, h⟩ => by
      obtain ⟨i, hi, rfl⟩ := List.getElem_of_mem hs
      exact .inr ⟨i, hi, by rw [h]; simp [List.getD, hi]⟩)) hW.is
    have r2 := hW.best ca cw g2.nn g2.lt g2.is
    have e1 : cw = W := by omega
    have e2 : ca = A := by omega
    subst e1 e2
    conv => whnf
    repeat' (first
      | ((with_reducible refine Br.df ?_ ?_); (focus (first | assumption | omega)); conv => whnf)
      | (first | (refine Ld.at 1 rfl rfl ?_; conv => whnf) | (refine Ld.at 2 rfl rfl ?_; conv => whnf))
      | ((with_reducible refine Dr.by (id := 12) Tryz.tysOk rfl [(0, 1), (2, 0), (1, 1), (3, 0), (4, 0)] ?_ ?_); (focus kernel_rfl); conv => whnf))
    all_goals (refine Is.ent ?_ ?_; (focus (refine FEnt.ent ?_; (repeat (first | exact FEnt.rfl | refine FEnt.drop ?_)); done)); (exact Is.rfl))
theorem Tryz.loadWorstNo (C : Cfg) (w e : Int) (L : List HP) (he : e ≠ 0) (htb : ∀ L, Rd slE L C.wa C.ws → Rd slE L C.sa C.ss → Rd clE L C.ca C.xs → Con Tryz.prog 14 [cfV C, n64 w] L (Is (.tuple #[.pointer none, n64 e]) L)) (h1 : Rd slE L C.wa C.ws) (h2 : Rd slE L C.sa C.ss) (h3 : Rd clE L C.ca C.xs) :
    Con Tryz.prog 6 [cfV C, n64 w] L (Is (.tuple #[n64 0, n64 0, n64 e]) L) := by
  refine con_of Tryz.tysOk Tryz.func6 rfl rfl ?_
  conv => whnf
  repeat' (first
    | ((with_reducible refine Br.ndt ?_ ?_); (focus (first | assumption | omega)); conv => whnf)
    | ((with_reducible refine Nd.mk ?_ ?_); (focus (first | omega | rfl | assumption | (simp; done))); conv => whnf)
    | ((with_reducible refine Nc.go' (fun _ => ?_)); conv => whnf)
    | (refine Ld.at 0 rfl rfl ?_; conv => whnf)
    | (refine LdN.at 1 rfl (by first | exact Nat.le_of_ble_eq_true rfl | (simp; done)) ?_; conv => whnf)
    | (refine St.at 0 rfl (by first | exact Nat.le_of_ble_eq_true rfl | (simp; done)) rfl ?_; conv => whnf)
    | ((with_reducible refine Cl.is (htb _ (by ((repeat (first | assumption | apply Rd.cons)); done)) (by ((repeat (first | assumption | apply Rd.cons)); done)) (by ((repeat (first | assumption | apply Rd.cons)); done))) ?_); conv => whnf))
  all_goals (refine Is.ent ?_ ?_; (focus (refine FEnt.ent ?_; (repeat (first | exact FEnt.rfl | refine FEnt.drop ?_)); done)); (exact Is.rfl))
theorem Tryz.loadParts (n m : Int) (L : List HP) (h : 1 ≤ m ∧ m ≤ 2147483647 ∧ 0 ≤ n ∧ n ≤ m) : Con Tryz.prog 18 [n64 n, n64 m] L (Is (.tuple #[n64 ((n * 10000).tdiv m), n64 (10000 - (n * 10000).tdiv m)]) L) := by
  have e : (n * 10000).tdiv m = (n * 10000) / m := Int.tdiv_eq_ediv_of_nonneg (by omega)
  have h1 : 0 ≤ (n * 10000) / m := Int.ediv_nonneg (by omega) (by omega)
  have h2 : (n * 10000) / m ≤ n * 10000 := Int.ediv_le_self m (by omega)
  rw [← e] at h1 h2
  refine con_of Tryz.tysOk Tryz.func18 rfl rfl ?_
  conv => whnf
  repeat' (first
    | (first | ((with_reducible refine Br.ff ?_); conv => whnf) | ((with_reducible refine Br.df ?_ ?_); (focus (first | assumption | omega)); conv => whnf))
    | ((with_reducible refine Ar.i64 ?_ ?_); (focus omega); conv => whnf)
    | ((with_reducible refine Nd.mk ?_ ?_); (focus (first | omega | rfl | assumption | (simp; done))); conv => whnf))
  all_goals first | (refine Is.ent ?_ ?_; (focus (exact Ent.rfl)); (exact Is.rfl)) | omega
theorem Tryz.loadPartsNo (n m : Int) (L : List HP) (h : ¬ (1 ≤ m ∧ m ≤ 2147483647 ∧ 0 ≤ n ∧ n ≤ m)) : Con Tryz.prog 18 [n64 n, n64 m] L (Is (.tuple #[n64 0, n64 0]) L) := by
  refine con_of Tryz.tysOk Tryz.func18 rfl rfl ?_
  conv => whnf
  repeat' (first
    | (first | ((with_reducible refine Br.tt ?_); conv => whnf) | ((with_reducible refine Br.ff ?_); conv => whnf) | ((with_reducible refine Br.dt ?_ ?_); (focus (first | assumption | omega)); conv => whnf))
    | ((with_reducible refine Br.ds (fun _ => ?_) (fun _ => ?_) ) <;> (conv => whnf)))
  all_goals first | (refine Is.ent ?_ ?_; (focus (exact Ent.rfl)); (exact Is.rfl)) | omega | (exfalso; omega)
/-! what must be whatever is asked -/
abbrev liveX : Cli := ⟨128, 32, 1, 0, 2, 0, 0, 0, 0, 0⟩
abbrev liveC (bw bs bc : Nat) : Cfg := ⟨20, some ⟨bw, 0, none⟩, 2, [(0, 0, 4), (1, 4, 20)], some ⟨bs, 0, none⟩, 1, [(1, 4, 12)], some ⟨bc, 0, none⟩, 1, [liveX]⟩
theorem liveC_b0 : CfB (liveC 0 0 0) := by
  refine ⟨by decide, fun x hx => ?_, fun x hx => ?_, fun x hx => ?_, by decide, by decide, by decide⟩
  · rcases List.mem_cons.1 hx with rfl | hx
    · decide
    · rw [List.mem_singleton.1 hx]; decide
  · rw [List.mem_singleton.1 hx]; decide
  · rw [List.mem_singleton.1 hx]
    exact ⟨by decide, by decide, by decide, by decide, by decide, by decide, by decide, by decide, by decide, by decide⟩
theorem liveC_b (bw bs bc : Nat) : CfB (liveC bw bs bc) := ⟨liveC_b0.F, liveC_b0.w, liveC_b0.s, liveC_b0.c, liveC_b0.wc, liveC_b0.sc, liveC_b0.cc⟩
theorem ringN_1 : ringN 1 = 10 := by unfold ringN; rw [if_pos (.inl rfl)]; rfl
theorem live_good : goodC liveX := by
  refine ⟨⟨by decide, by decide, by decide, by decide⟩, ⟨?_, by decide, ?_⟩, ⟨by decide, by decide, by decide, by decide⟩, ⟨by decide, by decide, by decide, by decide⟩, by decide, by decide, by decide, by decide⟩
  · rw [ringN_1]; decide
  · rw [ringN_1]; decide
theorem liveC_r0 : Right (liveC 0 0 0) := by
  have hf : frF (liveC 0 0 0) := by decide
  have hs : goodS (liveC 0 0 0) (cS (liveC 0 0 0) 0) := by decide
  have l1 : ∀ i, i < (liveC 0 0 0).xs.length → i = 0 := fun i hi => by simp at hi; exact hi
  have l2 : ∀ i, i < (liveC 0 0 0).ss.length → i = 0 := fun i hi => by simp at hi; exact hi
  have l3 : ∀ i, i < (liveC 0 0 0).ws.length → i = 0 ∨ i = 1 := fun i hi => by simp at hi; omega
  have l4 : ∀ i, i < (liveC 0 0 0).xs.length + 1 → i = 0 ∨ i = 1 := fun i hi => by simp at hi; omega
  refine ⟨hf, ?_, ?_, ?_, ?_, ?_, ?_, ?_, ?_, ?_⟩
  · intro i hi hb; rw [l1 i hi] at hb; exact hb live_good
  · intro i hi hb; rw [l1 i hi] at hb; obtain ⟨_, j, hj, _⟩ := hb; omega
  · intro i hi hb
    rcases l3 i hi with rfl | rfl
    · exact hb (by decide)
    · exact hb (by decide)
  · intro i hi hb
    rcases l3 i hi with rfl | rfl
    · obtain ⟨j, hj, _⟩ := hb; omega
    · obtain ⟨j, hj, h⟩ := hb
      have : j = 0 := by omega
      subst this
      revert h; decide
  · intro i hi hb
    rcases l4 i hi with rfl | rfl
    · exact hb ⟨0, by decide, by decide⟩
    · exact hb ⟨1, by decide, by decide⟩
  · rintro ⟨k, hk, hz, hm, hg, hl⟩
    rcases l3 k hk with rfl | rfl
    · revert hl; decide
    · revert hz; decide
  · intro i hi hb; rw [l2 i hi] at hb; exact hb hs
  · intro i hi hb; rw [l2 i hi] at hb; obtain ⟨j, hj, _⟩ := hb; omega
  · intro i hi hb
    rw [l1 i hi] at hb
    unfold b10 unF at hb
    rw [if_pos hf] at hb
    have e := unN_succ (C := liveC 0 0 0) (o := 1) (k := 0) (by decide)
    rw [if_pos ⟨by decide, hs⟩] at e
    have e0 : unN (liveC 0 0 0) 1 0 = 0 := by simp [unN]
    rw [e0] at e
    have e2 : ((0 : Nat) : Int) + 1 = 1 := by omega
    rw [e2] at hb
    have e3 : unN (liveC 0 0 0) 1 1 = 2 := e
    have hb' : unN (liveC 0 0 0) 1 1 < 2 := hb
    omega
theorem liveC_r (bw bs bc : Nat) : Right (liveC bw bs bc) := ⟨liveC_r0.f, liveC_r0.r2, liveC_r0.r3, liveC_r0.r4, liveC_r0.r5, liveC_r0.r6, liveC_r0.r7, liveC_r0.r8, liveC_r0.r9, liveC_r0.r10⟩
theorem live_worst : WorstP 20 [(1, 4, 12)] 1 15 9 := by
  refine ⟨by omega, by omega, ⟨by omega, by omega, by decide, ?_⟩, ?_⟩
  · have key : ∀ u : Nat, u < 15 → ¬ begO [(1, 4, 12)] 1 ((9 + (u : Int)) % 20) := by decide
    intro u h1 h2
    have := key u.toNat (by omega)
    rwa [show ((u.toNat : Nat) : Int) = u from by omega] at this
  · have b4 : begO [(1, 4, 12)] 1 4 := by decide
    have b8 : begO [(1, 4, 12)] 1 8 := by decide
    intro o d h1 h2 h3
    have key : ∀ u : Int, 0 ≤ u → begO [(1, 4, 12)] 1 ((o + u) % 20) → d ≤ u := fun u hu hb => by
      rcases Int.lt_or_le u d with hlt | hle
      · exact (h3.no u hu hlt hb).elim
      · exact hle
    by_cases o4 : o ≤ 4
    · have := key (4 - o) (by omega) (by rw [show (o + (4 - o)) % 20 = 4 from by omega]; exact b4)
      omega
    · by_cases o8 : o ≤ 8
      · have := key (8 - o) (by omega) (by rw [show (o + (8 - o)) % 20 = 8 from by omega]; exact b8)
        omega
      · have := key (24 - o) (by omega) (by rw [show (o + (24 - o)) % 20 = 4 from by omega]; exact b4)
        omega
theorem Tryz.loadLive (L : List HP) : Con Tryz.prog 8 [] L (Is (.bool true) L) := by
  have hw := fun bw bs bc L h1 h2 h3 => Tryz.loadWorst (liveC bw bs bc) 1 15 9 L (liveC_b bw bs bc) (liveC_r bw bs bc) ⟨by omega, by show (1 : Int) ≤ 1; omega⟩ live_worst h1 h2 h3
  have hp := fun L => Tryz.loadParts 1 3 L (by omega)
  refine con_of Tryz.tysOk Tryz.func8 rfl rfl ?_
  conv => whnf
  repeat' (first
    | (first | ((with_reducible refine Br.tt ?_); conv => whnf) | ((with_reducible refine Br.dt ?_ ?_); (focus (first | assumption | omega)); conv => whnf) | ((with_reducible refine Br.yes ?_ ?_); (focus (first | (simp; done) | (simp; omega))); conv => whnf))
    | ((with_reducible refine Nd.mk ?_ ?_); (focus (first | omega | rfl | assumption | (simp; done))); conv => whnf)
    | ((with_reducible refine Nc.go' (fun _ => ?_)); conv => whnf)
    | (first | (refine LdN.at 0 rfl (by first | exact Nat.le_of_ble_eq_true rfl | (simp; done)) ?_; conv => whnf) | (refine LdN.at 2 rfl (by first | exact Nat.le_of_ble_eq_true rfl | (simp; done)) ?_; conv => whnf))
    | (refine St.at 0 rfl (by first | exact Nat.le_of_ble_eq_true rfl | (simp; done)) rfl ?_; conv => whnf)
    | (first | ((with_reducible refine (?_ : Cl _ 6 _ _ _ _)); (refine Cl.is (hw _ _ _ _ (Rd.ptc 3 rfl [(0, 0, 4), (1, 4, 20)] rfl) (Rd.ptc 2 rfl [(1, 4, 12)] rfl) (Rd.ptc 1 rfl [liveX] rfl)) ?_); conv => whnf) | ((with_reducible refine Cl.is (hp _) ?_); conv => whnf)))
  all_goals (refine Is.ent ?_ ?_; (focus (refine FEnt.ent ?_; (repeat (first | exact FEnt.rfl | refine FEnt.drop ?_)); done)); (exact Is.rfl))
end Go.Proofs
