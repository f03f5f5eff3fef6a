/- How much of a frame is whose: plain laws, contracts, the statement. -/
import Derived.Test.YtaacolkdlmfifaaGreatLoadC
import Derived.Test.YtaacolkdlmfifaaGreatSpanI
import Derived.Test.YtaacolkdlmfifaaGreatSlotL
set_option linter.all false
namespace Go.Proofs
open Go.Eng
open Classical
set_option linter.unusedVariables false
set_option maxRecDepth 100000
set_option maxHeartbeats 2000000
/-- whose an offset is; -1: nobody's -/
def winF (ws : List Slt) (m : Int) : Int := match ws.find? (fun w => decide (inSl w m)) with
  | none => -1
  | some w => w.1
theorem win_nil (m : Int) : winF [] m = -1 := rfl
theorem win_cons (w : Slt) (ws : List Slt) (m : Int) : winF (w :: ws) m = if inSl w m then w.1 else winF ws m := by
  unfold winF
  rw [List.find?_cons]
  by_cases h : inSl w m
  · rw [if_pos h, decide_eq_true h]
  · rw [if_neg h, decide_eq_false h]
theorem win_at {ws : List Slt} {m : Int} {k : Nat} (hk : k < ws.length) (h : inSl (ws.getD k slE.d) m) (hp : ∀ i, i < k → ¬ inSl (ws.getD i slE.d) m) : winF ws m = (ws.getD k slE.d).1 := by
  induction ws generalizing k with
  | nil => simp at hk
  | cons w ws ih =>
    rw [win_cons]
    cases k with
    | zero =>
      have h : inSl w m := h
      rw [if_pos h]; rfl
    | succ k =>
      have h0 : ¬ inSl w m := hp 0 (by omega)
      rw [if_neg h0]
      exact ih (by simpa using hk) h (fun i hi => hp (i + 1) (by omega))
theorem win_no {ws : List Slt} {m : Int} (hp : ∀ i, i < ws.length → ¬ inSl (ws.getD i slE.d) m) : winF ws m = -1 := by
  induction ws with
  | nil => rfl
  | cons w ws ih =>
    have h0 : ¬ inSl w m := hp 0 (by simp)
    rw [win_cons, if_neg h0]
    exact ih (fun i hi => hp (i + 1) (by simpa using hi))
/-- what an owner's first rows have together -/
def sumO (ws : List Slt) (o : Int) (k : Nat) : Int := ((ws.take k).map fun w => if w.1 = o then w.2.2 - w.2.1 else 0).sum
theorem sumO_zero {ws : List Slt} {o : Int} : sumO ws o 0 = 0 := by simp [sumO]
theorem sumO_succ {ws : List Slt} {o : Int} {k : Nat} (hk : k < ws.length) : sumO ws o (k + 1) = sumO ws o k + if (ws.getD k slE.d).1 = o then (ws.getD k slE.d).2.2 - (ws.getD k slE.d).2.1 else 0 := by
  unfold sumO
  rw [List.take_add_one, List.getElem?_eq_getElem hk, List.map_append, List.sum_append]
  have e : ws.getD k slE.d = ws[k] := by simp [List.getD, hk]
  rw [e]
  simp
theorem sumO_all (ws : List Slt) (o : Int) : sumO ws o ws.length = (ws.map fun w => if w.1 = o then w.2.2 - w.2.1 else 0).sum := by unfold sumO; rw [List.take_length]
theorem sumO_bd {ws : List Slt} {o : Int} (h : ∀ w ∈ ws, 0 ≤ w.2.1 ∧ w.2.1 < w.2.2 ∧ w.2.2 ≤ 4096) : ∀ k, k ≤ ws.length → 0 ≤ sumO ws o k ∧ sumO ws o k ≤ 4096 * k := by
  intro k
  induction k with
  | zero => intro _; rw [sumO_zero]; omega
  | succ k ih =>
    intro hk
    have h1 := ih (by omega)
    rw [sumO_succ (by omega)]
    have := h _ (getD_mem (d := slE.d) (show k < ws.length by omega))
    split <;> omega
/-- rows that are in a frame and apart -/
structure Apt (N : Int) (ws : List Slt) (lo : Int) : Prop where
  in_ : ∀ w ∈ ws, lo ≤ w.1 ∧ 0 ≤ w.2.1 ∧ w.2.1 < w.2.2 ∧ w.2.2 ≤ N
  ap : ws.Pairwise fun a b => ¬ meetP (slP a) (slP b)
theorem Apt.tail {N lo : Int} {w : Slt} {ws : List Slt} (h : Apt N (w :: ws) lo) : Apt N ws lo := ⟨fun x hx => h.in_ x (by simp [hx]), (List.pairwise_cons.1 h.ap).2⟩
theorem Apt.head {N lo m : Int} {w : Slt} {ws : List Slt} (h : Apt N (w :: ws) lo) (hm : inSl w m) : winF ws m = -1 := by
  refine win_no fun i hi hx => ?_
  have h1 := h.in_ w (by simp)
  have h2 := h.in_ (ws.getD i slE.d) (List.mem_cons_of_mem _ (getD_mem hi))
  exact (List.pairwise_cons.1 h.ap).1 _ (getD_mem (d := slE.d) hi) ⟨⟨h1.2.1, h1.2.2.1⟩, ⟨h2.2.1, h2.2.2.1⟩, by show w.2.1 < _; have := hx.2; have := hm.1; show _ < (ws.getD i slE.d).2.2; omega, by show (ws.getD i slE.d).2.1 < w.2.2; have := hx.1; have := hm.2; omega⟩
theorem cnt_win {N : Nat} {o : Int} (ho : 0 ≤ o) : ∀ {ws : List Slt}, Apt N ws 0 → cntF (fun m => winF ws m = o) N = sumO ws o ws.length
  | [], _ => by rw [cntF_no N fun m _ _ => by rw [win_nil]; omega]; rfl
  | w :: ws, h => by
    have h1 := h.in_ w (by simp)
    have ih := cnt_win (N := N) ho h.tail
    have e : sumO (w :: ws) o (w :: ws).length = (if w.1 = o then w.2.2 - w.2.1 else 0) + sumO ws o ws.length := by rw [sumO_all, sumO_all, List.map_cons, List.sum_cons]
    rw [e, ← ih]
    have e2 : cntF (fun m => winF (w :: ws) m = o) N = cntF (fun m => (inSl w m ∧ w.1 = o) ∨ winF ws m = o) N := cntF_congr N fun m _ _ => by
      rw [win_cons]
      by_cases hm : inSl w m
      · rw [if_pos hm, h.head hm]
        constructor
        · exact fun hh => .inl ⟨hm, hh⟩
        · rintro (hh | hh)
          · exact hh.2
          · omega
      · rw [if_neg hm]
        exact ⟨.inr, fun hh => hh.elim (fun x => absurd x.1 hm) id⟩
    rw [e2, cntF_or N (fun m _ _ a b => by have := h.head a.1; omega)]
    congr 1
    by_cases hw : w.1 = o
    · rw [if_pos hw, cntF_congr (q := fun m => w.2.1 ≤ m ∧ m < w.2.2) N (fun m _ _ => ⟨fun x => x.1, fun x => ⟨x, hw⟩⟩), cntF_span h1.2.1 (by omega)]
      omega
    · rw [if_neg hw, cntF_no N (fun m _ _ x => hw x.2)]
theorem win_ge {N lo : Int} {ws : List Slt} (h : Apt N ws lo) {m : Int} : winF ws m = -1 ∨ ∃ w ∈ ws, inSl w m ∧ winF ws m = w.1 := by
  induction ws with
  | nil => exact .inl rfl
  | cons w ws ih =>
    rw [win_cons]
    by_cases hm : inSl w m
    · rw [if_pos hm]; exact .inr ⟨w, by simp, hm, rfl⟩
    · rw [if_neg hm]
      rcases ih h.tail with h1 | ⟨x, hx, h2⟩
      · exact .inl h1
      · exact .inr ⟨x, by simp [hx], h2⟩
theorem win_none {N lo : Int} {ws : List Slt} (h : Apt N ws lo) (hlo : 0 ≤ lo) {m : Int} : winF ws m = -1 ↔ ¬ inS (ws.map slP) m := by
  constructor
  · rintro hw ⟨x, hx, hm⟩
    obtain ⟨w, hw2, rfl⟩ := List.mem_map.1 hx
    rcases win_ge h (m := m) with h1 | ⟨y, hy, h2, h3⟩
    · obtain ⟨i, hi, rfl⟩ := List.getElem_of_mem hw2
      have key : ∀ (zs : List Slt), Apt N zs lo → winF zs m = -1 → ∀ z ∈ zs, ¬ inSl z m := by
        intro zs
        induction zs with
        | nil => intro _ _ z hz; simp at hz
        | cons z zs ih =>
          intro hz hw z' hz'
          rw [win_cons] at hw
          by_cases hm : inSl z m
          · rw [if_pos hm] at hw
            have := (hz.in_ z (by simp)).1
            omega
          · rw [if_neg hm] at hw
            rcases List.mem_cons.1 hz' with rfl | hz'
            · exact hm
            · exact ih hz.tail hw z' hz'
      exact key ws h hw _ hw2 ⟨hm.2.1, hm.2.2⟩
    · have := (h.in_ y hy).1
      omega
  · intro hn
    rcases win_ge h (m := m) with h1 | ⟨y, hy, h2, h3⟩
    · exact h1
    · exact (hn ⟨slP y, List.mem_map.2 ⟨y, hy, rfl⟩, ⟨(h.in_ y hy).2.1, h2.1, h2.2⟩⟩).elim
/-- the bus' owner at an offset: 0: nobody -/
theorem st_win {N : Int} {ws : List Slt} (h : Apt N ws 1) (m : Int) : (stO ws m).1 = if winF ws m = -1 then 0 else winF ws m := by
  unfold stO winF
  cases hf : ws.find? (fun s => decide (inSl s m)) with
  | none => rfl
  | some s =>
    have := (h.in_ s (List.mem_of_find?_eq_some hf)).1
    show (stS s m).1 = if s.1 = -1 then 0 else s.1
    rw [if_neg (by omega)]
    unfold stS
    split <;> rfl
theorem Tryz.refWindow (C : Cfg) (m : Int) (L : List HP) (hl : C.ws.length ≤ 1000) (hr : Rd slE L C.wa C.ws) : Con Tryz.prog 27 [cfV C, n64 m] L (Is (n64 (winF C.ws m)) L) := by
  refine con_of Tryz.tysOk Tryz.func27 rfl rfl ?_
  conv => whnf
  repeat' ((with_reducible refine Nc.go' (fun _ => ?_)); conv => whnf)
  rename_i b2
  conv => whnf
  refine Lp.by Tryz.tysOk [5] (fun (k : Nat) => [.int .i64 k]) (fun k => ptc b2 26 (cfC C) :: L) (fun k => k ≤ C.ws.length ∧ ∀ i, i < k → ¬ inSl (C.ws.getD i slE.d) m) (fun k => C.ws.length - k) (0) (by kernel_rfl) (by (exact Ent.rfl)) (⟨by omega, fun i hi => by omega⟩) ?_
  rintro k ⟨g1, g2⟩
  conv => whnf
  repeat (intro _; conv => whnf)
  by_cases hk : k < C.ws.length
  · by_cases hm : inSl (C.ws.getD k slE.d) m
    · rw [win_at hk hm g2]
      obtain ⟨m1, m2⟩ := hm
      clear g2
      conv => whnf
      repeat' (first
        | (first | ((with_reducible refine Br.tt ?_); conv => whnf) | ((with_reducible refine Br.dt ?_ ?_); (focus (first | assumption | omega)); conv => whnf))
        | ((with_reducible refine Ix.ad ?_ ?_ ?_); (focus (exact Rd.ad (by assumption))); (focus (omega)); conv => whnf)
        | (first | ((first | (with_reducible apply Ld.rdk) | (with_reducible apply Ld.rdk0)); (focus ((repeat (first | assumption | apply Rd.cons)); done)); (focus rfl); (focus (omega)); (focus rfl); conv => whnf) | (refine Ld.at 0 rfl rfl ?_; conv => whnf)))
      all_goals first | (refine Is.ent ?_ ?_; (focus (refine FEnt.ent ?_; (repeat (first | exact FEnt.rfl | refine FEnt.drop ?_)); done)); (exact Is.rfl)) | (exfalso; omega)
    · have hm2 : ¬ ((C.ws.getD k slE.d).2.1 ≤ m ∧ m < (C.ws.getD k slE.d).2.2) := hm
      conv => whnf
      repeat' (first
        | (first | ((with_reducible refine Br.tt ?_); conv => whnf) | ((with_reducible refine Br.ff ?_); conv => whnf) | ((with_reducible refine Br.dt ?_ ?_); (focus (first | assumption | omega)); conv => whnf) | ((with_reducible refine Br.df ?_ ?_); (focus (first | assumption | omega)); conv => whnf))
        | ((with_reducible refine Ar.i64 ?_ ?_); (focus omega); conv => whnf)
        | ((with_reducible refine Ix.ad ?_ ?_ ?_); (focus (exact Rd.ad (by assumption))); (focus (omega)); conv => whnf)
        | (first | ((with_reducible apply Ld.rdk); (focus ((repeat (first | assumption | apply Rd.cons)); done)); (focus rfl); (focus (omega)); (focus rfl); conv => whnf) | (refine Ld.at 0 rfl rfl ?_; conv => whnf))
        | ((with_reducible refine Br.ds (fun _ => ?_) (fun _ => ?_) ) <;> (conv => whnf)))
      all_goals first | exact ⟨k + 1, by kernel_rfl, by (exact Ent.rfl), ⟨by omega, lt_step g2 hm⟩, by omega⟩ | (exfalso; omega)
  · rw [win_no (fun i hi => g2 i (by omega))]
    clear g2
    conv => whnf
    repeat' (first
      | ((with_reducible refine Br.df ?_ ?_); (focus (first | assumption | omega)); conv => whnf)
      | (refine Ld.at 0 rfl rfl ?_; conv => whnf))
    all_goals (refine Is.ent ?_ ?_; (focus (refine FEnt.ent ?_; (repeat (first | exact FEnt.rfl | refine FEnt.drop ?_)); done)); (exact Is.rfl))
theorem cntF_succ (p : Int → Prop) (k : Nat) : cntF p (k + 1) = cntF p k + if p k then 1 else 0 := rfl
noncomputable abbrev cpuN (C : Cfg) (o : Int) (k : Nat) : Int := cntF (fun m => winF C.ws m = o) k
noncomputable abbrev busN (C : Cfg) (o : Int) (k : Nat) : Int := cntF (fun m => (stO C.ss m).1 = o) k
noncomputable abbrev uniN (C : Cfg) (o : Int) (k : Nat) : Int := cntF (fun m => begO C.ss o m) k
theorem Tryz.refShare (C : Cfg) (o : Int) (L : List HP) (hR : Right C) (h1 : Rd slE L C.wa C.ws) (h2 : Rd slE L C.sa C.ss) :
    Con Tryz.prog 13 [cfV C, n64 o] L (Is (.tuple #[n64 (cpuN C o C.F.toNat), n64 (busN C o C.F.toNat), n64 (uniN C o C.F.toNat)]) L) := by
  have hf := hR.f
  have hok := right_slots hR
  have hFF : 1 ≤ C.F ∧ C.F ≤ 4096 := ⟨hf.1, hf.2.1⟩
  have hat := fun (k : Nat) (hk : (k : Int) < C.F) L h => Tryz.refAt C.F k C.sa C.sc C.ss L (by omega) ⟨by omega, by omega⟩ hok ⟨by omega, by omega⟩ h
  have hwi := fun (k : Nat) L h => Tryz.refWindow C k L (by omega) h
  clear hf hok
  refine con_of Tryz.tysOk Tryz.func13 rfl rfl ?_
  conv => whnf
  repeat' ((with_reducible refine Nc.go' (fun _ => ?_)); conv => whnf)
  rename_i b2
  conv => whnf
  refine Lp.by4 Tryz.tysOk [10, 7, 8, 9] (fun (k : Nat) (x y z : Int) => [.int .i64 k, n64 x, n64 y, n64 z]) (fun k x y z => ptc b2 26 (cfC C) :: L) (fun k x y z => (k : Int) ≤ C.F ∧ x = cpuN C o k ∧ y = busN C o k ∧ z = uniN C o k) (fun k x y z => C.F.toNat - k) (0) (0) (0) (0) (by kernel_rfl) (by (exact Ent.rfl)) (⟨by omega, rfl, rfl, rfl⟩) ?_
  rintro k x y z ⟨g1, g2, g3, g4⟩
  conv => whnf
  repeat (intro _; conv => whnf)
  have x1 : 0 ≤ x ∧ x ≤ k := by rw [g2]; exact cntF_bd _ k
  have x2 : 0 ≤ y ∧ y ≤ k := by rw [g3]; exact cntF_bd _ k
  have x3 : 0 ≤ z ∧ z ≤ k := by rw [g4]; exact cntF_bd _ k
  by_cases hk : (k : Int) < C.F
  · have hst : stF C.F C.ss k = stO C.ss k := by
      unfold stF
      rw [if_neg (by omega), Int.emod_eq_of_lt (by omega) hk]
    have hat := hat k hk
    have hwi := hwi k
    rw [hst] at hat
    have s1 := cntF_succ (fun m => winF C.ws m = o) k
    have s2 := cntF_succ (fun m => (stO C.ss m).1 = o) k
    have s3 := cntF_succ (fun m => begO C.ss o m) k
    have hb : begO C.ss o k ↔ (stO C.ss k).1 = o ∧ 0 ≤ (stO C.ss k).2.1 ∧ (stO C.ss k).2.2 = 0 := Iff.rfl
    clear hst
    generalize stO C.ss k = s at *
    generalize winF C.ws k = u at *
    by_cases hu : u = o
    · by_cases hs : s.1 = o
      · by_cases hp : 0 ≤ s.2.1 ∧ s.2.2 = 0
        · have hg : begO C.ss o k := hb.2 ⟨hs, hp.1, hp.2⟩
          rw [if_pos hu] at s1
          rw [if_pos hs] at s2
          rw [if_pos hg] at s3
          have t1 : cpuN C o (k + 1) = x + 1 := by rw [g2]; exact s1
          have t2 : busN C o (k + 1) = y + 1 := by rw [g3]; exact s2
          have t3 : uniN C o (k + 1) = z + 1 := by rw [g4]; exact s3
          clear hb hg s1 s2 s3
          conv => whnf
          repeat' (first
            | (first | ((with_reducible refine Br.tt ?_); conv => whnf) | ((with_reducible refine Br.dt ?_ ?_); (focus (first | assumption | omega)); conv => whnf))
            | ((with_reducible refine Ar.i64 ?_ ?_); (focus omega); conv => whnf)
            | ((with_reducible refine Nd.mk ?_ ?_); (focus (first | omega | rfl | assumption | (simp; done))); conv => whnf)
            | ((with_reducible refine Nc.go' (fun _ => ?_)); conv => whnf)
            | (refine Ld.at 0 rfl rfl ?_; conv => whnf)
            | (refine LdN.at 1 rfl (by first | exact Nat.le_of_ble_eq_true rfl | (simp; done)) ?_; conv => whnf)
            | (refine St.at 0 rfl (by first | exact Nat.le_of_ble_eq_true rfl | (simp; done)) rfl ?_; conv => whnf)
            | (first | ((with_reducible refine Cl.is (hat _ (by ((repeat (first | assumption | apply Rd.cons)); done))) ?_); conv => whnf) | ((with_reducible refine Cl.is (hwi _ (by ((repeat (first | assumption | apply Rd.cons)); done))) ?_); conv => whnf)))
          all_goals exact ⟨k + 1, x + 1, y + 1, z + 1, by kernel_rfl, by (refine FEnt.ent ?_; (repeat (first | exact FEnt.rfl | (refine FEnt.at 1 rfl ?_; (try simp only [List.eraseIdx_cons_zero, List.eraseIdx_cons_succ, List.eraseIdx_zero, List.tail_cons])) | refine FEnt.drop ?_)); done), ⟨by omega, t1.symm, t2.symm, t3.symm⟩, by omega⟩
        · have hg : ¬ begO C.ss o k := fun h => hp ⟨(hb.1 h).2.1, (hb.1 h).2.2⟩
          rw [if_pos hu] at s1
          rw [if_pos hs] at s2
          rw [if_neg hg] at s3
          have t1 : cpuN C o (k + 1) = x + 1 := by rw [g2]; exact s1
          have t2 : busN C o (k + 1) = y + 1 := by rw [g3]; exact s2
          have t3 : uniN C o (k + 1) = z := by rw [g4]; exact s3.trans (Int.add_zero _)
          clear hb hg s1 s2 s3
          conv => whnf
          repeat' (first
            | (first | ((with_reducible refine Br.tt ?_); conv => whnf) | ((with_reducible refine Br.ff ?_); conv => whnf) | ((with_reducible refine Br.dt ?_ ?_); (focus (first | assumption | omega)); conv => whnf) | ((with_reducible refine Br.df ?_ ?_); (focus (first | assumption | omega)); conv => whnf))
            | ((with_reducible refine Ar.i64 ?_ ?_); (focus omega); conv => whnf)
            | ((with_reducible refine Nd.mk ?_ ?_); (focus (first | omega | rfl | assumption | (simp; done))); conv => whnf)
            | ((with_reducible refine Nc.go' (fun _ => ?_)); conv => whnf)
            | (refine Ld.at 0 rfl rfl ?_; conv => whnf)
            | (refine LdN.at 1 rfl (by first | exact Nat.le_of_ble_eq_true rfl | (simp; done)) ?_; conv => whnf)
            | (refine St.at 0 rfl (by first | exact Nat.le_of_ble_eq_true rfl | (simp; done)) rfl ?_; conv => whnf)
            | (first | ((with_reducible refine Cl.is (hat _ (by ((repeat (first | assumption | apply Rd.cons)); done))) ?_); conv => whnf) | ((with_reducible refine Cl.is (hwi _ (by ((repeat (first | assumption | apply Rd.cons)); done))) ?_); conv => whnf))
            | ((with_reducible refine Br.ds (fun _ => ?_) (fun _ => ?_) ) <;> (conv => whnf)))
          all_goals exact ⟨k + 1, x + 1, y + 1, z, by kernel_rfl, by (refine FEnt.ent ?_; (repeat (first | exact FEnt.rfl | (refine FEnt.at 1 rfl ?_; (try simp only [List.eraseIdx_cons_zero, List.eraseIdx_cons_succ, List.eraseIdx_zero, List.tail_cons])) | refine FEnt.drop ?_)); done), ⟨by omega, t1.symm, t2.symm, t3.symm⟩, by omega⟩
      · have hg : ¬ begO C.ss o k := fun h => hs (hb.1 h).1
        rw [if_pos hu] at s1
        rw [if_neg hs] at s2
        rw [if_neg hg] at s3
        have t1 : cpuN C o (k + 1) = x + 1 := by rw [g2]; exact s1
        have t2 : busN C o (k + 1) = y := by rw [g3]; exact s2.trans (Int.add_zero _)
        have t3 : uniN C o (k + 1) = z := by rw [g4]; exact s3.trans (Int.add_zero _)
        clear hb hg s1 s2 s3
        conv => whnf
        repeat' (first
          | (first | ((with_reducible refine Br.ff ?_); conv => whnf) | ((with_reducible refine Br.dt ?_ ?_); (focus (first | assumption | omega)); conv => whnf) | ((with_reducible refine Br.df ?_ ?_); (focus (first | assumption | omega)); conv => whnf))
          | ((with_reducible refine Ar.i64 ?_ ?_); (focus omega); conv => whnf)
          | ((with_reducible refine Nd.mk ?_ ?_); (focus (first | omega | rfl | assumption | (simp; done))); conv => whnf)
          | ((with_reducible refine Nc.go' (fun _ => ?_)); conv => whnf)
          | (refine Ld.at 0 rfl rfl ?_; conv => whnf)
          | (refine LdN.at 1 rfl (by first | exact Nat.le_of_ble_eq_true rfl | (simp; done)) ?_; conv => whnf)
          | (refine St.at 0 rfl (by first | exact Nat.le_of_ble_eq_true rfl | (simp; done)) rfl ?_; conv => whnf)
          | (first | ((with_reducible refine Cl.is (hat _ (by ((repeat (first | assumption | apply Rd.cons)); done))) ?_); conv => whnf) | ((with_reducible refine Cl.is (hwi _ (by ((repeat (first | assumption | apply Rd.cons)); done))) ?_); conv => whnf)))
        all_goals exact ⟨k + 1, x + 1, y, z, by kernel_rfl, by (refine FEnt.ent ?_; (repeat (first | exact FEnt.rfl | (refine FEnt.at 1 rfl ?_; (try simp only [List.eraseIdx_cons_zero, List.eraseIdx_cons_succ, List.eraseIdx_zero, List.tail_cons])) | refine FEnt.drop ?_)); done), ⟨by omega, t1.symm, t2.symm, t3.symm⟩, by omega⟩
    · by_cases hs : s.1 = o
      · by_cases hp : 0 ≤ s.2.1 ∧ s.2.2 = 0
        · have hg : begO C.ss o k := hb.2 ⟨hs, hp.1, hp.2⟩
          rw [if_neg hu] at s1
          rw [if_pos hs] at s2
          rw [if_pos hg] at s3
          have t1 : cpuN C o (k + 1) = x := by rw [g2]; exact s1.trans (Int.add_zero _)
          have t2 : busN C o (k + 1) = y + 1 := by rw [g3]; exact s2
          have t3 : uniN C o (k + 1) = z + 1 := by rw [g4]; exact s3
          clear hb hg s1 s2 s3
          conv => whnf
          repeat' (first
            | (first | ((with_reducible refine Br.tt ?_); conv => whnf) | ((with_reducible refine Br.dt ?_ ?_); (focus (first | assumption | omega)); conv => whnf) | ((with_reducible refine Br.df ?_ ?_); (focus (first | assumption | omega)); conv => whnf))
            | ((with_reducible refine Ar.i64 ?_ ?_); (focus omega); conv => whnf)
            | ((with_reducible refine Nd.mk ?_ ?_); (focus (first | omega | rfl | assumption | (simp; done))); conv => whnf)
            | ((with_reducible refine Nc.go' (fun _ => ?_)); conv => whnf)
            | (refine Ld.at 0 rfl rfl ?_; conv => whnf)
            | (refine LdN.at 1 rfl (by first | exact Nat.le_of_ble_eq_true rfl | (simp; done)) ?_; conv => whnf)
            | (refine St.at 0 rfl (by first | exact Nat.le_of_ble_eq_true rfl | (simp; done)) rfl ?_; conv => whnf)
            | (first | ((with_reducible refine Cl.is (hat _ (by ((repeat (first | assumption | apply Rd.cons)); done))) ?_); conv => whnf) | ((with_reducible refine Cl.is (hwi _ (by ((repeat (first | assumption | apply Rd.cons)); done))) ?_); conv => whnf)))
          all_goals exact ⟨k + 1, x, y + 1, z + 1, by kernel_rfl, by (refine FEnt.ent ?_; (repeat (first | exact FEnt.rfl | (refine FEnt.at 1 rfl ?_; (try simp only [List.eraseIdx_cons_zero, List.eraseIdx_cons_succ, List.eraseIdx_zero, List.tail_cons])) | refine FEnt.drop ?_)); done), ⟨by omega, t1.symm, t2.symm, t3.symm⟩, by omega⟩
        · have hg : ¬ begO C.ss o k := fun h => hp ⟨(hb.1 h).2.1, (hb.1 h).2.2⟩
          rw [if_neg hu] at s1
          rw [if_pos hs] at s2
          rw [if_neg hg] at s3
          have t1 : cpuN C o (k + 1) = x := by rw [g2]; exact s1.trans (Int.add_zero _)
          have t2 : busN C o (k + 1) = y + 1 := by rw [g3]; exact s2
          have t3 : uniN C o (k + 1) = z := by rw [g4]; exact s3.trans (Int.add_zero _)
          clear hb hg s1 s2 s3
          conv => whnf
          repeat' (first
            | (first | ((with_reducible refine Br.tt ?_); conv => whnf) | ((with_reducible refine Br.ff ?_); conv => whnf) | ((with_reducible refine Br.dt ?_ ?_); (focus (first | assumption | omega)); conv => whnf) | ((with_reducible refine Br.df ?_ ?_); (focus (first | assumption | omega)); conv => whnf))
            | ((with_reducible refine Ar.i64 ?_ ?_); (focus omega); conv => whnf)
            | ((with_reducible refine Nd.mk ?_ ?_); (focus (first | omega | rfl | assumption | (simp; done))); conv => whnf)
            | ((with_reducible refine Nc.go' (fun _ => ?_)); conv => whnf)
            | (refine Ld.at 0 rfl rfl ?_; conv => whnf)
            | (refine LdN.at 1 rfl (by first | exact Nat.le_of_ble_eq_true rfl | (simp; done)) ?_; conv => whnf)
            | (refine St.at 0 rfl (by first | exact Nat.le_of_ble_eq_true rfl | (simp; done)) rfl ?_; conv => whnf)
            | (first | ((with_reducible refine Cl.is (hat _ (by ((repeat (first | assumption | apply Rd.cons)); done))) ?_); conv => whnf) | ((with_reducible refine Cl.is (hwi _ (by ((repeat (first | assumption | apply Rd.cons)); done))) ?_); conv => whnf))
            | ((with_reducible refine Br.ds (fun _ => ?_) (fun _ => ?_) ) <;> (conv => whnf)))
          all_goals exact ⟨k + 1, x, y + 1, z, by kernel_rfl, by (refine FEnt.ent ?_; (repeat (first | exact FEnt.rfl | (refine FEnt.at 1 rfl ?_; (try simp only [List.eraseIdx_cons_zero, List.eraseIdx_cons_succ, List.eraseIdx_zero, List.tail_cons])) | refine FEnt.drop ?_)); done), ⟨by omega, t1.symm, t2.symm, t3.symm⟩, by omega⟩
      · have hg : ¬ begO C.ss o k := fun h => hs (hb.1 h).1
        rw [if_neg hu] at s1
        rw [if_neg hs] at s2
        rw [if_neg hg] at s3
        have t1 : cpuN C o (k + 1) = x := by rw [g2]; exact s1.trans (Int.add_zero _)
        have t2 : busN C o (k + 1) = y := by rw [g3]; exact s2.trans (Int.add_zero _)
        have t3 : uniN C o (k + 1) = z := by rw [g4]; exact s3.trans (Int.add_zero _)
        clear hb hg s1 s2 s3
        conv => whnf
        repeat' (first
          | (first | ((with_reducible refine Br.ff ?_); conv => whnf) | ((with_reducible refine Br.dt ?_ ?_); (focus (first | assumption | omega)); conv => whnf) | ((with_reducible refine Br.df ?_ ?_); (focus (first | assumption | omega)); conv => whnf))
          | ((with_reducible refine Ar.i64 ?_ ?_); (focus omega); conv => whnf)
          | ((with_reducible refine Nd.mk ?_ ?_); (focus (first | omega | rfl | assumption | (simp; done))); conv => whnf)
          | ((with_reducible refine Nc.go' (fun _ => ?_)); conv => whnf)
          | (refine Ld.at 0 rfl rfl ?_; conv => whnf)
          | (refine LdN.at 1 rfl (by first | exact Nat.le_of_ble_eq_true rfl | (simp; done)) ?_; conv => whnf)
          | (refine St.at 0 rfl (by first | exact Nat.le_of_ble_eq_true rfl | (simp; done)) rfl ?_; conv => whnf)
          | (first | ((with_reducible refine Cl.is (hat _ (by ((repeat (first | assumption | apply Rd.cons)); done))) ?_); conv => whnf) | ((with_reducible refine Cl.is (hwi _ (by ((repeat (first | assumption | apply Rd.cons)); done))) ?_); conv => whnf)))
        all_goals exact ⟨k + 1, x, y, z, by kernel_rfl, by (refine FEnt.ent ?_; (repeat (first | exact FEnt.rfl | (refine FEnt.at 1 rfl ?_; (try simp only [List.eraseIdx_cons_zero, List.eraseIdx_cons_succ, List.eraseIdx_zero, List.tail_cons])) | refine FEnt.drop ?_)); done), ⟨by omega, t1.symm, t2.symm, t3.symm⟩, by omega⟩
  · have e : k = C.F.toNat := by omega
    subst e
    subst g2 g3 g4
    conv => whnf
    repeat' (first
      | ((with_reducible refine Br.df ?_ ?_); (focus (first | assumption | omega)); conv => whnf)
      | (refine Ld.at 0 rfl rfl ?_; conv => whnf))
    all_goals (refine Is.ent ?_ ?_; (focus (refine FEnt.ent ?_; (repeat (first | exact FEnt.rfl | refine FEnt.drop ?_)); done)); (exact Is.rfl))
/-! the package's -/
abbrev Shr := Int × Int × Int × Int × Int
def shE : Enc Shr := ⟨5, fun x => [n64 x.1, n64 x.2.1, n64 x.2.2.1, n64 x.2.2.2.1, n64 x.2.2.2.2], (0, 0, 0, 0, 0), fun _ => rfl, by omega, fun _ => rfl⟩
def mapR {α : Type} (n : Nat) (r : Nat → α) : List α := (List.range n).map r
theorem mapR_len {α : Type} (n : Nat) (r : Nat → α) : (mapR n r).length = n := by simp [mapR]
theorem mapR_getD {α : Type} {n i : Nat} {r : Nat → α} {d : α} (h : i < n) : (mapR n r).getD i d = r i := by
  simp [mapR, List.getD, h]
theorem mapR_set {α : Type} {n j : Nat} {r r' : Nat → α} {x : α} (h : ∀ i, i < n → r' i = if i = j then x else r i) : (mapR n r).set j x = mapR n r' := by
  refine List.ext_getElem (by simp [mapR]) fun i h1 h2 => ?_
  have hi : i < n := by simpa [mapR] using h2
  have := h i hi
  simp only [mapR, List.getElem_set, List.getElem_map, List.getElem_range]
  rw [this]
  by_cases hij : j = i
  · subst hij; simp
  · rw [if_neg hij, if_neg (fun e => hij e.symm)]
theorem mapR_rep {α : Type} {n : Nat} {r : Nat → α} {x : α} (h : ∀ i, i < n → r i = x) : List.replicate n x = mapR n r := by
  refine List.ext_getElem (by simp [mapR]) fun i h1 h2 => ?_
  have hi : i < n := by simpa [mapR] using h2
  simp [mapR, h i hi]
theorem mapR_congr {α : Type} {n : Nat} {r r' : Nat → α} (h : ∀ i, i < n → r i = r' i) : mapR n r = mapR n r' := by
  unfold mapR
  exact List.map_congr_left fun i hi => h i (List.mem_range.1 hi)
noncomputable def shRow (C : Cfg) (k m : Nat) (i : Nat) : Shr := ((i : Int), sumO C.ws i k, sumO C.ss i m, if i = 0 then 0 else unF C i, if i = 0 then 0 else (cX C (i - 1)).q)
noncomputable def shZero (C : Cfg) (k : Nat) (i : Nat) : Shr := if i < k then shRow C 0 0 i else (0, 0, 0, 0, 0)
theorem Tryz.loadShares (C : Cfg) (L : List HP) (hB : CfB C) (hR : Right C) (h1 : Rd slE L C.wa C.ws) (h2 : Rd slE L C.sa C.ss) (h3 : Rd clE L C.ca C.xs) :
    Con Tryz.prog 10 [cfV C] L (Exs (fun y : Option Addr × Nat => .tuple #[.slice y.1 (mapR (C.xs.length + 1) (shRow C C.ws.length C.ss.length)).length y.2, n64 0]) (fun y => own shE 45 y.1 y.2 (mapR (C.xs.length + 1) (shRow C C.ws.length C.ss.length)) :: L) (fun y => (mapR (C.xs.length + 1) (shRow C C.ws.length C.ss.length)).length ≤ y.2 ∧ Ad y.1 (mapR (C.xs.length + 1) (shRow C C.ws.length C.ss.length)).length)) := by
  have hck := fun L h1 h2 h3 => Con.dt hR (Tryz.confCheck C L hB h1 h2 h3)
  have hun := fun o L h => Tryz.confUnits C o L hB.F.2 h
  have hf := hR.f
  have hW : ∀ w ∈ C.ws, (0 ≤ w.1 ∧ w.1 ≤ C.xs.length) ∧ (0 ≤ w.2.1 ∧ w.2.1 < w.2.2 ∧ w.2.2 ≤ 4096) := fun w hw => by
    obtain ⟨i, hi, rfl⟩ := List.getElem_of_mem hw
    have hg : goodW C (cW C i) := Classical.byContradiction fun hn => hR.r4 i hi hn
    rw [show cW C i = C.ws[i] from by simp [cW, List.getD, hi]] at hg
    exact ⟨hg.1, hg.2.1.1, hg.2.1.2, by have := hg.2.2; omega⟩
  have hS : ∀ w ∈ C.ss, (0 ≤ w.1 ∧ w.1 ≤ C.xs.length) ∧ (0 ≤ w.2.1 ∧ w.2.1 < w.2.2 ∧ w.2.2 ≤ 4096) := fun w hw => by
    obtain ⟨i, hi, rfl⟩ := List.getElem_of_mem hw
    have hg : goodS C (cS C i) := Classical.byContradiction fun hn => hR.r8 i hi hn
    rw [show cS C i = C.ss[i] from by simp [cS, List.getD, hi]] at hg
    exact ⟨⟨by have := hg.1.1; omega, hg.1.2⟩, hg.2.1.1.1, hg.2.1.1.2, by have := hg.2.1.2; omega⟩
  have hN : 1 ≤ C.xs.length ∧ C.xs.length ≤ 8 ∧ C.ws.length ≤ 9 ∧ C.ss.length ≤ 32 := by omega
  clear hf hR
  have erep : List.replicate (C.xs.length + 1) shE.d = mapR (C.xs.length + 1) (shZero C 0) := mapR_rep fun i hi => rfl
  refine con_of Tryz.tysOk Tryz.func10 rfl rfl ?_
  conv => whnf
  repeat' (first
    | ((with_reducible refine Br.nt ?_); conv => whnf)
    | ((with_reducible refine Ar.i64 ?_ ?_); (focus omega); conv => whnf)
    | ((with_reducible refine Nc.go' (fun _ => ?_)); conv => whnf)
    | (refine Ld.at 0 rfl rfl ?_; conv => whnf)
    | (refine LdN.at 0 rfl (by first | exact Nat.le_of_ble_eq_true rfl | (simp; done)) ?_; conv => whnf)
    | ((with_reducible refine Cl.is (hck _ (by ((repeat (first | assumption | apply Rd.cons)); done)) (by ((repeat (first | assumption | apply Rd.cons)); done)) (by ((repeat (first | assumption | apply Rd.cons)); done))) ?_); conv => whnf)
    | (((with_reducible apply (Mk.own shE)); (focus rfl); (focus omega); (focus rfl); (intro _)); conv => whnf))
  rename_i b1 bo
  rw [show ((C.xs.length : Int) + 1).toNat = C.xs.length + 1 from by omega, erep]
  have had0 : Ad (some (⟨bo, 0, none⟩ : Addr)) (C.xs.length + 1) := fun _ => rfl
  rw [mapR_len (C.xs.length + 1) (shZero C 0)]
  generalize (some (⟨bo, 0, none⟩ : Addr)) = ao at *
  clear erep
  conv => whnf
  refine Lp.by Tryz.tysOk [20] (fun (k : Nat) => [.int .i64 k]) (fun k => own shE 45 ao (C.xs.length + 1) (mapR (C.xs.length + 1) (shZero C k)) :: ptc b1 26 (cfC C) :: L) (fun k => k ≤ C.xs.length + 1) (fun k => C.xs.length + 1 - k) (0) (by kernel_rfl) (by (exact Ent.rfl)) (by omega) ?_
  rintro k g1
  conv => whnf
  repeat (intro _; conv => whnf)
  by_cases hk : k < C.xs.length + 1
  · have hl0 := mapR_len (C.xs.length + 1) (shZero C k)
    have hy : (mapR (C.xs.length + 1) (shZero C k)).getD k shE.d = (0, 0, 0, 0, 0) := by rw [mapR_getD hk]; exact if_neg (by omega)
    have hst : ∀ x : Shr, x = shRow C 0 0 k → (mapR (C.xs.length + 1) (shZero C k)).set k x = mapR (C.xs.length + 1) (shZero C (k + 1)) := fun x hx => mapR_set fun i hi => by
      unfold shZero
      by_cases h1 : i = k
      · subst h1
        rw [if_pos (by omega), if_pos rfl, hx]
      · rw [if_neg h1]
        by_cases h2 : i < k
        · rw [if_pos (by omega), if_pos h2]
        · rw [if_neg (by omega), if_neg h2]
    have hun := hun (k : Int)
    have hq : ((k : Int) - 1).toNat = k - 1 := by omega
    by_cases hk0 : k = 0
    · have e0 : (((k : Nat) : Int), (0 : Int), (0 : Int), (0 : Int), (0 : Int)) = shRow C 0 0 k := by
        unfold shRow
        rw [if_pos hk0, if_pos hk0, sumO_zero, sumO_zero]
      have hst := hst _ e0
      generalize mapR (C.xs.length + 1) (shZero C k) = xs at *
      conv => whnf
      repeat' (first
        | (first | ((with_reducible refine Br.dt ?_ ?_); (focus (first | assumption | omega)); conv => whnf) | ((with_reducible refine Br.df ?_ ?_); (focus (first | assumption | omega)); conv => whnf))
        | ((with_reducible refine Ar.i64 ?_ ?_); (focus omega); conv => whnf)
        | ((with_reducible refine Nd.mk ?_ ?_); (focus (first | omega | rfl | assumption | (simp; done))); conv => whnf)
        | ((with_reducible refine Ix.ad ?_ ?_ ?_); (focus (assumption)); (focus (omega)); conv => whnf)
        | ((refine St.own0k 0 rfl rfl (by omega) ((k : Int), 0, 0, 0, 0) (by rw [hy]; rfl) (by exact Nat.le_of_ble_eq_true rfl) rfl ?_); conv => whnf))
      all_goals (rw [hst]; exact ⟨k + 1, by kernel_rfl, by (exact Ent.rfl), by omega, by omega⟩)
    · have e0 : (((k : Nat) : Int), (0 : Int), (0 : Int), unF C (k : Int), (C.xs.getD ((k : Int) - 1).toNat clE.d).q) = shRow C 0 0 k := by
        unfold shRow
        rw [if_neg hk0, if_neg hk0, sumO_zero, sumO_zero, hq]
      have hst := hst _ e0
      generalize mapR (C.xs.length + 1) (shZero C k) = xs at *
      have s1 : (xs.set k ((k : Int), 0, 0, 0, 0)).getD k shE.d = ((k : Int), 0, 0, 0, 0) := by simp [List.getD, hl0, hk]
      have s2 : ((xs.set k ((k : Int), 0, 0, 0, 0)).set k ((k : Int), 0, 0, unF C (k : Int), 0)).getD k shE.d = ((k : Int), 0, 0, unF C (k : Int), 0) := by simp [List.getD, hl0, hk]
      conv => whnf
      repeat' (first
        | ((with_reducible refine Br.dt ?_ ?_); (focus (first | assumption | omega)); conv => whnf)
        | ((with_reducible refine Ar.i64 ?_ ?_); (focus omega); conv => whnf)
        | ((with_reducible refine Nd.mk ?_ ?_); (focus (first | omega | rfl | assumption | (simp; done))); conv => whnf)
        | ((with_reducible refine Ix.ad ?_ ?_ ?_); (focus (first | assumption | exact Rd.ad (by assumption))); (focus (omega)); conv => whnf)
        | (first | ((apply Ld.rd); (focus ((repeat (first | assumption | apply Rd.cons)); done)); (focus rfl); (focus (omega)); (focus rfl); conv => whnf) | (refine Ld.at 1 rfl rfl ?_; conv => whnf))
        | (refine LdN.at 1 rfl (by first | exact Nat.le_of_ble_eq_true rfl | (simp; done)) ?_; conv => whnf)
        | ((with_reducible refine Cl.is (hun _ (by ((repeat (first | assumption | apply Rd.cons)); done))) ?_); conv => whnf)
        | ((refine St.own0k 0 rfl rfl (by omega) ((k : Int), 0, 0, 0, 0) (by rw [hy]; rfl) (by exact Nat.le_of_ble_eq_true rfl) rfl ?_); conv => whnf)
        | ((refine St.ownjk (j := 3) 0 rfl rfl (by rw [List.length_set]; omega) ((k : Int), 0, 0, unF C (k : Int), 0) (by rw [s1]; rfl) (by exact Nat.le_of_ble_eq_true rfl) rfl ?_); conv => whnf)
        | ((refine St.ownjk (j := 4) 0 rfl rfl (by rw [List.length_set, List.length_set]; omega) ((k : Int), 0, 0, unF C (k : Int), (C.xs.getD ((k : Int) - 1).toNat clE.d).q) (by rw [s2]; rfl) (by exact Nat.le_of_ble_eq_true rfl) rfl ?_); conv => whnf))
      all_goals (rw [List.set_set, List.set_set, hst]; exact ⟨k + 1, by kernel_rfl, by (exact Ent.rfl), by omega, by omega⟩)
  · have e : k = C.xs.length + 1 := by omega
    subst e
    rw [mapR_congr (r := shZero C (C.xs.length + 1)) (r' := shRow C 0 0) (fun i hi => by unfold shZero; rw [if_pos hi])]
    conv => whnf
    repeat' (first
      | ((with_reducible refine Br.df ?_ ?_); (focus (first | assumption | omega)); conv => whnf)
      | (refine Ld.at 1 rfl rfl ?_; conv => whnf))
    conv => whnf
    refine Lp.by Tryz.tysOk [52] (fun (k : Nat) => [.int .i64 k]) (fun k => own shE 45 ao (C.xs.length + 1) (mapR (C.xs.length + 1) (shRow C k 0)) :: ptc b1 26 (cfC C) :: L) (fun k => k ≤ C.ws.length) (fun k => C.ws.length - k) (0) (by kernel_rfl) (by (exact Ent.rfl)) (by omega) ?_
    rintro k g2
    conv => whnf
    repeat (intro _; conv => whnf)
    by_cases hk : k < C.ws.length
    · have hw := hW _ (getD_mem (d := slE.d) hk)
      have hl0 := mapR_len (C.xs.length + 1) (shRow C k 0)
      have hj : (C.ws.getD k slE.d).1.toNat < C.xs.length + 1 := by omega
      have hji : (((C.ws.getD k slE.d).1.toNat : Nat) : Int) = (C.ws.getD k slE.d).1 := by omega
      have hb := sumO_bd (o := (C.ws.getD k slE.d).1) (fun w h => (hW w h).2) k (by omega)
      have hy : (mapR (C.xs.length + 1) (shRow C k 0)).getD (C.ws.getD k slE.d).1.toNat shE.d = shRow C k 0 (C.ws.getD k slE.d).1.toNat := mapR_getD hj
      have hy1 : ((mapR (C.xs.length + 1) (shRow C k 0)).getD (C.ws.getD k slE.d).1.toNat shE.d).2.1 = sumO C.ws (C.ws.getD k slE.d).1 k := by rw [hy, ← hji]; rfl
      have hst := fun x (hx : x = shRow C (k + 1) 0 (C.ws.getD k slE.d).1.toNat) => mapR_set (n := C.xs.length + 1) (j := (C.ws.getD k slE.d).1.toNat) (r := shRow C k 0) (r' := shRow C (k + 1) 0) (x := x) fun i hi => by
        by_cases h1 : i = (C.ws.getD k slE.d).1.toNat
        · rw [if_pos h1, hx, h1]
        · rw [if_neg h1]
          unfold shRow
          rw [sumO_succ hk, if_neg (fun h => h1 (by omega)), Int.add_zero]
      have e0 : (((mapR (C.xs.length + 1) (shRow C k 0)).getD (C.ws.getD k slE.d).1.toNat shE.d).1, ((mapR (C.xs.length + 1) (shRow C k 0)).getD (C.ws.getD k slE.d).1.toNat shE.d).2.1 + ((C.ws.getD k slE.d).2.2 - (C.ws.getD k slE.d).2.1), ((mapR (C.xs.length + 1) (shRow C k 0)).getD (C.ws.getD k slE.d).1.toNat shE.d).2.2.1, ((mapR (C.xs.length + 1) (shRow C k 0)).getD (C.ws.getD k slE.d).1.toNat shE.d).2.2.2.1, ((mapR (C.xs.length + 1) (shRow C k 0)).getD (C.ws.getD k slE.d).1.toNat shE.d).2.2.2.2) = shRow C (k + 1) 0 (C.ws.getD k slE.d).1.toNat := by
        rw [hy]
        unfold shRow
        rw [sumO_succ hk, hji, if_pos rfl]
      have hst := hst _ e0
      clear hW hS hy e0
      generalize mapR (C.xs.length + 1) (shRow C k 0) = xs at *
      conv => whnf
      repeat' (first
        | ((with_reducible refine Br.dt ?_ ?_); (focus (first | assumption | omega)); conv => whnf)
        | ((with_reducible refine Ar.i64 ?_ ?_); (focus omega); conv => whnf)
        | ((with_reducible refine Nd.mk ?_ ?_); (focus (first | omega | rfl | assumption | (simp; done))); conv => whnf)
        | ((with_reducible refine Nc.go' (fun _ => ?_)); conv => whnf)
        | ((with_reducible refine Ix.ad ?_ ?_ ?_); (focus (first | assumption | exact Rd.ad (by assumption))); (focus (omega)); conv => whnf)
        | (first | ((apply Ld.rd); (focus ((repeat ((refine Rd.own 1 rfl ?_); (exact Ad.mono (by assumption) (by (omega))))); done)); (focus rfl); (focus (omega)); (focus rfl); conv => whnf) | (refine Ld.at 0 rfl rfl ?_; conv => whnf))
        | ((with_reducible apply LdN.rdk); (focus ((repeat (first | assumption | apply Rd.cons)); done)); (focus rfl); (focus rfl); (focus (omega)); conv => whnf)
        | (refine St.at 0 rfl (by first | exact Nat.le_of_ble_eq_true rfl | (simp; done)) rfl ?_; conv => whnf)
        | ((with_reducible refine Dr.by (id := 15) Tryz.tysOk rfl [(0, 0), (1, 0), (6, 0), (8, 0), (2, 1), (3, 0), (4, 0), (5, 1), (7, 1), (9, 1), (10, 0), (11, 0), (12, 0), (13, 0), (14, 3)] ?_ ?_); (focus kernel_rfl); conv => whnf)
        | ((refine St.ownj (j := 1) 1 rfl rfl (by omega) ((xs.getD (C.ws.getD k slE.d).1.toNat shE.d).1, (xs.getD (C.ws.getD k slE.d).1.toNat shE.d).2.1 + ((C.ws.getD k slE.d).2.2 - (C.ws.getD k slE.d).2.1), (xs.getD (C.ws.getD k slE.d).1.toNat shE.d).2.2.1, (xs.getD (C.ws.getD k slE.d).1.toNat shE.d).2.2.2.1, (xs.getD (C.ws.getD k slE.d).1.toNat shE.d).2.2.2.2) rfl (by exact Nat.le_of_ble_eq_true rfl) rfl ?_); conv => whnf))
      all_goals (rw [hst]; exact ⟨k + 1, by kernel_rfl, by (refine FEnt.ent ?_; (repeat (first | exact FEnt.rfl | (refine FEnt.at 1 rfl ?_; (try simp only [List.eraseIdx_cons_zero, List.eraseIdx_cons_succ, List.eraseIdx_zero, List.tail_cons])) | refine FEnt.drop ?_)); done), by omega, by omega⟩)
    · have e : k = C.ws.length := by omega
      subst e
      conv => whnf
      repeat' (first
        | ((with_reducible refine Br.df ?_ ?_); (focus (first | assumption | omega)); conv => whnf)
        | (refine Ld.at 1 rfl rfl ?_; conv => whnf))
      conv => whnf
      refine Lp.by Tryz.tysOk [74] (fun (k : Nat) => [.int .i64 k]) (fun k => own shE 45 ao (C.xs.length + 1) (mapR (C.xs.length + 1) (shRow C C.ws.length k)) :: ptc b1 26 (cfC C) :: L) (fun k => k ≤ C.ss.length) (fun k => C.ss.length - k) (0) (by kernel_rfl) (by (exact Ent.rfl)) (by omega) ?_
      rintro k g3
      conv => whnf
      repeat (intro _; conv => whnf)
      by_cases hk : k < C.ss.length
      · have hw := hS _ (getD_mem (d := slE.d) hk)
        have hl0 := mapR_len (C.xs.length + 1) (shRow C C.ws.length k)
        have hj : (C.ss.getD k slE.d).1.toNat < C.xs.length + 1 := by omega
        have hji : (((C.ss.getD k slE.d).1.toNat : Nat) : Int) = (C.ss.getD k slE.d).1 := by omega
        have hb := sumO_bd (o := (C.ss.getD k slE.d).1) (fun w h => (hS w h).2) k (by omega)
        have hy : (mapR (C.xs.length + 1) (shRow C C.ws.length k)).getD (C.ss.getD k slE.d).1.toNat shE.d = shRow C C.ws.length k (C.ss.getD k slE.d).1.toNat := mapR_getD hj
        have hy1 : ((mapR (C.xs.length + 1) (shRow C C.ws.length k)).getD (C.ss.getD k slE.d).1.toNat shE.d).2.2.1 = sumO C.ss (C.ss.getD k slE.d).1 k := by rw [hy, ← hji]; rfl
        have hst := fun x (hx : x = shRow C C.ws.length (k + 1) (C.ss.getD k slE.d).1.toNat) => mapR_set (n := C.xs.length + 1) (j := (C.ss.getD k slE.d).1.toNat) (r := shRow C C.ws.length k) (r' := shRow C C.ws.length (k + 1)) (x := x) fun i hi => by
          by_cases h1 : i = (C.ss.getD k slE.d).1.toNat
          · rw [if_pos h1, hx, h1]
          · rw [if_neg h1]
            unfold shRow
            rw [sumO_succ hk, if_neg (fun h => h1 (by omega)), Int.add_zero]
        have e0 : (((mapR (C.xs.length + 1) (shRow C C.ws.length k)).getD (C.ss.getD k slE.d).1.toNat shE.d).1, ((mapR (C.xs.length + 1) (shRow C C.ws.length k)).getD (C.ss.getD k slE.d).1.toNat shE.d).2.1, ((mapR (C.xs.length + 1) (shRow C C.ws.length k)).getD (C.ss.getD k slE.d).1.toNat shE.d).2.2.1 + ((C.ss.getD k slE.d).2.2 - (C.ss.getD k slE.d).2.1), ((mapR (C.xs.length + 1) (shRow C C.ws.length k)).getD (C.ss.getD k slE.d).1.toNat shE.d).2.2.2.1, ((mapR (C.xs.length + 1) (shRow C C.ws.length k)).getD (C.ss.getD k slE.d).1.toNat shE.d).2.2.2.2) = shRow C C.ws.length (k + 1) (C.ss.getD k slE.d).1.toNat := by
          rw [hy]
          unfold shRow
          rw [sumO_succ hk, hji, if_pos rfl]
        have hst := hst _ e0
        clear hW hS hy e0
        generalize mapR (C.xs.length + 1) (shRow C C.ws.length k) = xs at *
        conv => whnf
        repeat' (first
          | ((with_reducible refine Br.dt ?_ ?_); (focus (first | assumption | omega)); conv => whnf)
          | ((with_reducible refine Ar.i64 ?_ ?_); (focus omega); conv => whnf)
          | ((with_reducible refine Nd.mk ?_ ?_); (focus (first | omega | rfl | assumption | (simp; done))); conv => whnf)
          | ((with_reducible refine Nc.go' (fun _ => ?_)); conv => whnf)
          | ((with_reducible refine Ix.ad ?_ ?_ ?_); (focus (first | assumption | exact Rd.ad (by assumption))); (focus (omega)); conv => whnf)
          | (first | ((apply Ld.rd); (focus ((repeat ((refine Rd.own 1 rfl ?_); (exact Ad.mono (by assumption) (by (omega))))); done)); (focus rfl); (focus (omega)); (focus rfl); conv => whnf) | (refine Ld.at 0 rfl rfl ?_; conv => whnf))
          | ((with_reducible apply LdN.rdk); (focus ((repeat (first | assumption | apply Rd.cons)); done)); (focus rfl); (focus rfl); (focus (omega)); conv => whnf)
          | (refine St.at 0 rfl (by first | exact Nat.le_of_ble_eq_true rfl | (simp; done)) rfl ?_; conv => whnf)
          | ((with_reducible refine Dr.by (id := 20) Tryz.tysOk rfl [(0, 0), (1, 0), (6, 0), (8, 0), (2, 1), (3, 0), (4, 0), (5, 1), (7, 1), (9, 1), (10, 0), (11, 0), (12, 0), (13, 0), (14, 3)] ?_ ?_); (focus kernel_rfl); conv => whnf)
          | ((refine St.ownj (j := 2) 1 rfl rfl (by omega) ((xs.getD (C.ss.getD k slE.d).1.toNat shE.d).1, (xs.getD (C.ss.getD k slE.d).1.toNat shE.d).2.1, (xs.getD (C.ss.getD k slE.d).1.toNat shE.d).2.2.1 + ((C.ss.getD k slE.d).2.2 - (C.ss.getD k slE.d).2.1), (xs.getD (C.ss.getD k slE.d).1.toNat shE.d).2.2.2.1, (xs.getD (C.ss.getD k slE.d).1.toNat shE.d).2.2.2.2) rfl (by exact Nat.le_of_ble_eq_true rfl) rfl ?_); conv => whnf))
        all_goals (rw [hst]; exact ⟨k + 1, by kernel_rfl, by (refine FEnt.ent ?_; (repeat (first | exact FEnt.rfl | (refine FEnt.at 1 rfl ?_; (try simp only [List.eraseIdx_cons_zero, List.eraseIdx_cons_succ, List.eraseIdx_zero, List.tail_cons])) | refine FEnt.drop ?_)); done), by omega, by omega⟩)
      · have e : k = C.ss.length := by omega
        subst e
        have hl0 := mapR_len (C.xs.length + 1) (shRow C C.ws.length C.ss.length)
        clear hW hS
        conv => whnf
        repeat' ((with_reducible refine Br.df ?_ ?_); (focus (first | assumption | omega)); conv => whnf)
        all_goals exact Exs.of ((ao, C.xs.length + 1) : Option Addr × Nat) (by (try dsimp only); (refine FEnt.ent ?_; (repeat (first | exact FEnt.rfl | (refine FEnt.at 0 rfl ?_; (try simp only [List.eraseIdx_cons_zero, List.eraseIdx_cons_succ, List.eraseIdx_zero, List.tail_cons])) | refine FEnt.drop ?_)); done)) ⟨by rw [mapR_len]; exact Nat.le_refl _, by rw [mapR_len]; exact had0⟩ (by show _ = Value.tuple _; rw [mapR_len])
theorem Tryz.loadSharesNo (C : Cfg) (L : List HP) (hB : CfB C) (hR : ¬ Right C) (h1 : Rd slE L C.wa C.ws) (h2 : Rd slE L C.sa C.ss) (h3 : Rd clE L C.ca C.xs) :
    Con Tryz.prog 10 [cfV C] L (Is (.tuple #[.slice none 0 0, n64 11]) L) := by
  have hck := fun L h1 h2 h3 => Con.df hR (Tryz.confCheck C L hB h1 h2 h3)
  refine con_of Tryz.tysOk Tryz.func10 rfl rfl ?_
  conv => whnf
  repeat' (first
    | ((with_reducible refine Br.nf ?_); conv => whnf)
    | ((with_reducible refine Nc.go' (fun _ => ?_)); conv => whnf)
    | (refine LdN.at 0 rfl (by first | exact Nat.le_of_ble_eq_true rfl | (simp; done)) ?_; conv => whnf)
    | ((with_reducible refine Cl.is (hck _ (by ((repeat (first | assumption | apply Rd.cons)); done)) (by ((repeat (first | assumption | apply Rd.cons)); done)) (by ((repeat (first | assumption | apply Rd.cons)); done))) ?_); conv => whnf))
  all_goals (refine Is.ent ?_ ?_; (focus (refine FEnt.ent ?_; (repeat (first | exact FEnt.rfl | refine FEnt.drop ?_)); done)); (exact Is.rfl))
theorem Tryz.loadIdleNo (C : Cfg) (L : List HP) (hB : CfB C) (hR : ¬ Right C) (h1 : Rd slE L C.wa C.ws) (h2 : Rd slE L C.sa C.ss) (h3 : Rd clE L C.ca C.xs) :
    Con Tryz.prog 11 [cfV C] L (Is (.tuple #[n64 0, n64 0, n64 11]) L) := by
  have hck := fun L h1 h2 h3 => Con.df hR (Tryz.confCheck C L hB h1 h2 h3)
  refine con_of Tryz.tysOk Tryz.func11 rfl rfl ?_
  conv => whnf
  repeat' (first
    | ((with_reducible refine Br.nf ?_); conv => whnf)
    | ((with_reducible refine Nc.go' (fun _ => ?_)); conv => whnf)
    | (refine LdN.at 0 rfl (by first | exact Nat.le_of_ble_eq_true rfl | (simp; done)) ?_; conv => whnf)
    | ((with_reducible refine Cl.is (hck _ (by ((repeat (first | assumption | apply Rd.cons)); done)) (by ((repeat (first | assumption | apply Rd.cons)); done)) (by ((repeat (first | assumption | apply Rd.cons)); done))) ?_); conv => whnf))
  all_goals (refine Is.ent ?_ ?_; (focus (refine FEnt.ent ?_; (repeat (first | exact FEnt.rfl | refine FEnt.drop ?_)); done)); (exact Is.rfl))
theorem slP_snoc {xs : List Slt} {k : Nat} (hk : k < xs.length) : (xs.take (k + 1)).map slP = (xs.take k).map slP ++ [((xs.getD k slE.d).2.1, (xs.getD k slE.d).2.2)] := by
  rw [List.take_add_one, List.getElem?_eq_getElem hk, List.map_append]
  have e : xs.getD k slE.d = xs[k] := by simp [List.getD, hk]
  rw [e]
  simp [slP]
theorem run_le {n : Int} {p : Int → Prop} : ∀ x ∈ runF n p, x.2 ≤ n := RunsOf.le runs_ok
theorem idle_cnt {F : Int} {ws : List Sp} : totalS (mergeF (runF F (fun m => ¬ inS ws m))) = cntF (fun m => ¬ inS ws m) F.toNat := by
  rw [total_merge (N := F.toNat) (fun x hx => by have := run_le x hx; omega)]
  exact cntF_congr _ fun m h0 h1 => by
    rw [runs_ok.same]
    exact ⟨fun h => h.2.2, fun h => ⟨h0, by omega, h⟩⟩
theorem Tryz.loadIdle (C : Cfg) (L : List HP) (hB : CfB C) (hR : Right C) (h1 : Rd slE L C.wa C.ws) (h2 : Rd slE L C.sa C.ss) (h3 : Rd clE L C.ca C.xs) :
    Con Tryz.prog 11 [cfV C] L (Is (.tuple #[n64 (cntF (fun m => ¬ inS (C.ws.map slP) m) C.F.toNat), n64 (cntF (fun m => ¬ inS (C.ss.map slP) m) C.F.toNat), n64 0]) L) := by
  have hck := fun L h1 h2 h3 => Con.dt hR (Tryz.confCheck C L hB h1 h2 h3)
  have hf := hR.f
  have hlen : ∀ p, (runF C.F p).length ≤ 4096 := fun p => by
    have e : C.F = (C.F.toNat : Int) := by omega
    have h := runs_len (n := C.F.toNat) (p := p) (ys := runF C.F p) (by rw [← e]; exact runs_ok)
    omega
  have g1 := fun a c L h => Tryz.spanGaps C.F a c (C.ws.map slP) L (by rw [List.length_map]; omega) h
  have g2 := fun a c L h => Tryz.spanGaps C.F a c (C.ss.map slP) L (by rw [List.length_map]; omega) h
  have t1 := fun a c L h => Tryz.spanTotal a c (runF C.F (fun m => ¬ inS (C.ws.map slP) m)) L (by have := hlen (fun m => ¬ inS (C.ws.map slP) m); omega) (fun x hx => by have := run_le x hx; omega) h
  have t2 := fun a c L h => Tryz.spanTotal a c (runF C.F (fun m => ¬ inS (C.ss.map slP) m)) L (by have := hlen (fun m => ¬ inS (C.ss.map slP) m); omega) (fun x hx => by have := run_le x hx; omega) h
  rw [← idle_cnt, ← idle_cnt]
  have hl1 : C.ws.length ≤ 9 ∧ C.ss.length ≤ 32 := by omega
  clear hlen hf hR
  refine con_of Tryz.tysOk Tryz.func11 rfl rfl ?_
  conv => whnf
  repeat' (first
    | ((with_reducible refine Br.nt ?_); conv => whnf)
    | ((with_reducible refine Nc.go' (fun _ => ?_)); conv => whnf)
    | (refine Ld.at 0 rfl rfl ?_; conv => whnf)
    | (refine LdN.at 0 rfl (by first | exact Nat.le_of_ble_eq_true rfl | (simp; done)) ?_; conv => whnf)
    | ((with_reducible refine Cl.is (hck _ (by ((repeat (first | assumption | apply Rd.cons)); done)) (by ((repeat (first | assumption | apply Rd.cons)); done)) (by ((repeat (first | assumption | apply Rd.cons)); done))) ?_); conv => whnf))
  rename_i b1
  conv => whnf
  refine Lp.by2 Tryz.tysOk [17, 5] (fun (k : Nat) (P : Option Addr × Nat × List Sp) => [.int .i64 k, .slice P.1 P.2.2.length P.2.1]) (fun k P => own spE 65 P.1 P.2.1 P.2.2 :: ptc b1 26 (cfC C) :: L) (fun k P => k ≤ C.ws.length ∧ (P.2.2 = (C.ws.take k).map slP ∧ P.2.2.length ≤ P.2.1 ∧ Ad P.1 P.2.2.length)) (fun k P => C.ws.length - k) (0) (((none, 0, []) : Option Addr × Nat × List Sp)) (by kernel_rfl) (by (exact Ent.nil)) (⟨by omega, ⟨rfl, by simp, fun h => (h rfl).elim⟩⟩) ?_
  rintro k ⟨a2, c2, ps⟩ ⟨u1, ⟨p1, p2, p3⟩⟩
  conv => whnf
  repeat (intro _; conv => whnf)
  dsimp only at p1 p2 p3
  have hpl : ps.length = k := by rw [p1, List.length_map, List.length_take]; omega
  by_cases hk : k < C.ws.length
  · have e1 := slP_snoc hk
    rw [← p1] at e1
    conv => whnf
    repeat' (first
      | ((with_reducible refine Br.dt ?_ ?_); (focus (first | assumption | omega)); conv => whnf)
      | ((with_reducible refine Ar.i64 ?_ ?_); (focus omega); conv => whnf)
      | ((with_reducible refine Nd.mk ?_ ?_); (focus (first | omega | rfl | assumption | (simp; done))); conv => whnf)
      | ((with_reducible refine Nc.go' (fun _ => ?_)); conv => whnf)
      | ((with_reducible refine Ix.ad ?_ ?_ ?_); (focus (exact Rd.ad (by assumption))); (focus (omega)); conv => whnf)
      | (refine Ld.at 0 rfl rfl ?_; conv => whnf)
      | ((with_reducible apply LdN.rdk); (focus ((repeat (first | assumption | apply Rd.cons)); done)); (focus rfl); (focus rfl); (focus (omega)); conv => whnf)
      | (refine St.at 0 rfl (by first | exact Nat.le_of_ble_eq_true rfl | (simp; done)) rfl ?_; conv => whnf)
      | ((with_reducible refine (?_ : Sm _ (Builtin.append_ _ _ _) _ _)); (((with_reducible apply (Sm.appAt (E := spE) (et := 65) Tryz.tysOk 2)); (focus rfl)); (rotate_left; (focus (exact Rd.ptc 0 rfl [_] rfl)); rotate_right; (focus rfl)); (focus rfl); (focus rfl); (focus rfl); (focus rfl); (focus rfl); (focus rfl); (focus ((simp only [List.length_append, List.length_cons, List.length_nil]); omega)); (intro _ _ _ _); conv => whnf)))
    rename_i a5 c5 hc5 had5
    exact ⟨k + 1, (a5, c5, _), by kernel_rfl, by (try dsimp only); (refine FEnt.ent ?_; (repeat (first | exact FEnt.rfl | (refine FEnt.at 0 rfl ?_; (try simp only [List.eraseIdx_cons_zero, List.eraseIdx_cons_succ, List.eraseIdx_zero, List.tail_cons])) | (refine FEnt.at 2 rfl ?_; (try simp only [List.eraseIdx_cons_zero, List.eraseIdx_cons_succ, List.eraseIdx_zero, List.tail_cons])) | refine FEnt.drop ?_)); done), ⟨by omega, ⟨e1.symm, hc5, had5⟩⟩, by omega⟩
  · have e : k = C.ws.length := by omega
    subst e
    rw [List.take_length] at p1
    subst p1
    conv => whnf
    repeat' (first
      | ((with_reducible refine Br.df ?_ ?_); (focus (first | assumption | omega)); conv => whnf)
      | (refine Ld.at 1 rfl rfl ?_; conv => whnf))
    conv => whnf
    refine Lp.by2 Tryz.tysOk [33, 6] (fun (k : Nat) (P : Option Addr × Nat × List Sp) => [.int .i64 k, .slice P.1 P.2.2.length P.2.1]) (fun k P => own spE 65 P.1 P.2.1 P.2.2 :: own spE 65 a2 c2 (C.ws.map slP) :: ptc b1 26 (cfC C) :: L) (fun k P => k ≤ C.ss.length ∧ (P.2.2 = (C.ss.take k).map slP ∧ P.2.2.length ≤ P.2.1 ∧ Ad P.1 P.2.2.length)) (fun k P => C.ss.length - k) (0) (((none, 0, []) : Option Addr × Nat × List Sp)) (by kernel_rfl) (by (exact Ent.nil)) (⟨by omega, ⟨rfl, by simp, fun h => (h rfl).elim⟩⟩) ?_
    rintro k ⟨a3, c3, qs⟩ ⟨u2, ⟨q1, q2, q3⟩⟩
    conv => whnf
    repeat (intro _; conv => whnf)
    dsimp only at q1 q2 q3
    have hql : qs.length = k := by rw [q1, List.length_map, List.length_take]; omega
    by_cases hk : k < C.ss.length
    · have e1 := slP_snoc hk
      rw [← q1] at e1
      conv => whnf
      repeat' (first
        | ((with_reducible refine Br.dt ?_ ?_); (focus (first | assumption | omega)); conv => whnf)
        | ((with_reducible refine Ar.i64 ?_ ?_); (focus omega); conv => whnf)
        | ((with_reducible refine Nd.mk ?_ ?_); (focus (first | omega | rfl | assumption | (simp; done))); conv => whnf)
        | ((with_reducible refine Nc.go' (fun _ => ?_)); conv => whnf)
        | ((with_reducible refine Ix.ad ?_ ?_ ?_); (focus (exact Rd.ad (by assumption))); (focus (omega)); conv => whnf)
        | (refine Ld.at 0 rfl rfl ?_; conv => whnf)
        | ((with_reducible apply LdN.rdk); (focus ((repeat (first | assumption | apply Rd.cons)); done)); (focus rfl); (focus rfl); (focus (omega)); conv => whnf)
        | (refine St.at 0 rfl (by first | exact Nat.le_of_ble_eq_true rfl | (simp; done)) rfl ?_; conv => whnf)
        | ((with_reducible refine (?_ : Sm _ (Builtin.append_ _ _ _) _ _)); (((with_reducible apply (Sm.appAt (E := spE) (et := 65) Tryz.tysOk 2)); (focus rfl)); (rotate_left; (focus (exact Rd.ptc 0 rfl [_] rfl)); rotate_right; (focus rfl)); (focus rfl); (focus rfl); (focus rfl); (focus rfl); (focus rfl); (focus rfl); (focus ((simp only [List.length_append, List.length_cons, List.length_nil]); omega)); (intro _ _ _ _); conv => whnf)))
      rename_i a5 c5 hc5 had5
      exact ⟨k + 1, (a5, c5, _), by kernel_rfl, by (try dsimp only); (refine FEnt.ent ?_; (repeat (first | exact FEnt.rfl | (refine FEnt.at 0 rfl ?_; (try simp only [List.eraseIdx_cons_zero, List.eraseIdx_cons_succ, List.eraseIdx_zero, List.tail_cons])) | (refine FEnt.at 2 rfl ?_; (try simp only [List.eraseIdx_cons_zero, List.eraseIdx_cons_succ, List.eraseIdx_zero, List.tail_cons])) | refine FEnt.drop ?_)); done), ⟨by omega, ⟨e1.symm, hc5, had5⟩⟩, by omega⟩
    · have e : k = C.ss.length := by omega
      subst e
      rw [List.take_length] at q1
      subst q1
      conv => whnf
      repeat' (first
        | ((with_reducible refine Br.df ?_ ?_); (focus (first | assumption | omega)); conv => whnf)
        | (refine Ld.at 2 rfl rfl ?_; conv => whnf)
        | ((with_reducible refine Dr.by (id := 14) Tryz.tysOk rfl [(0, 0), (2, 0), (5, 0), (7, 0), (1, 1), (6, 1), (3, 4), (4, 1), (8, 4), (9, 1), (10, 0), (11, 0), (12, 0)] ?_ ?_); (focus kernel_rfl); conv => whnf)
        | ((with_reducible refine (?_ : CD _ 22 _ _ _)); (first | refine CD.is (fun M => t1 _ _ _ (by ((repeat (first | ((refine Rd.own 0 rfl ?_); (assumption)) | apply Rd.cons | apply Rd.app)); done))) ?_ | refine CD.is (fun M => t2 _ _ _ (by ((repeat (first | ((refine Rd.own 0 rfl ?_); (assumption)) | apply Rd.app)); done))) ?_); conv => whnf)
        | (((with_reducible refine (?_ : CN _ _ _ _ _)); first | refine CN.new (fun M => g1 _ _ _ (by ((repeat (first | ((refine Rd.own 1 rfl ?_); (assumption)) | apply Rd.cons | apply Rd.app)); done))) (fun _ _ _ _ => ?_) | refine CN.new (fun M => g2 _ _ _ (by ((repeat (first | ((refine Rd.own 1 rfl ?_); (assumption)) | apply Rd.app)); done))) (fun _ _ _ _ => ?_)); conv => whnf))
      all_goals (refine Is.ent ?_ ?_; (focus (refine FEnt.ent ?_; (repeat (first | exact FEnt.rfl | refine FEnt.drop ?_)); done)); (exact Is.rfl))
theorem cntF_all {p : Int → Prop} : ∀ n : Nat, (∀ m : Int, 0 ≤ m → m < n → p m) → cntF p n = n
  | 0, _ => rfl
  | n + 1, h => by
    simp only [cntF]
    rw [cntF_all n fun m h0 h1 => h m h0 (by omega), if_pos (h n (by omega) (by omega))]
    omega
theorem apt_of {F : Int} {ws : List Slt} {lo : Int} (hF : 0 ≤ F) (h : ∀ i, i < ws.length → lo ≤ (ws.getD i slE.d).1 ∧ 0 ≤ (ws.getD i slE.d).2.1 ∧ (ws.getD i slE.d).2.1 < (ws.getD i slE.d).2.2 ∧ (ws.getD i slE.d).2.2 ≤ F)
    (ha : ∀ i, i < ws.length → ∀ j, j < i → ¬ meetW (ws.getD i slE.d) (ws.getD j slE.d)) : Apt (F.toNat : Int) ws lo := by
  refine ⟨fun w hw => ?_, List.pairwise_iff_getElem.2 fun i j hi hj hij hm => ?_⟩
  · obtain ⟨i, hi, rfl⟩ := List.getElem_of_mem hw
    have := h i hi
    rw [show ws.getD i slE.d = ws[i] from by simp [List.getD, hi]] at this
    omega
  · refine ha j hj i hij ?_
    rw [show ws.getD i slE.d = ws[i] from by simp [List.getD, hi], show ws.getD j slE.d = ws[j] from by simp [List.getD, hj]]
    exact ⟨hm.2.1, hm.1, hm.2.2.2, hm.2.2.1⟩
theorem apt_w {C : Cfg} (hR : Right C) : Apt (C.F.toNat : Int) C.ws 0 := by
  have hf := hR.f
  refine apt_of (by omega) (fun i hi => ?_) (fun i hi j hj hm => hR.r5 i hi ⟨j, hj, .inl hm⟩)
  have hg : goodW C (cW C i) := Classical.byContradiction fun hn => hR.r4 i hi hn
  exact ⟨hg.1.1, hg.2.1.1, hg.2.1.2, hg.2.2⟩
theorem apt_s {C : Cfg} (hR : Right C) : Apt (C.F.toNat : Int) C.ss 1 := by
  have hf := hR.f
  refine apt_of (by omega) (fun i hi => ?_) (fun i hi j hj hm => hR.r9 i hi ⟨j, hj, hm⟩)
  have hg : goodS C (cS C i) := Classical.byContradiction fun hn => hR.r8 i hi hn
  exact ⟨hg.1.1, hg.2.1.1.1, hg.2.1.1.2, hg.2.1.2⟩
theorem Apt.lo {N lo lo' : Int} {ws : List Slt} (h : Apt N ws lo) (hl : lo' ≤ lo) : Apt N ws lo' := ⟨fun w hw => by have := h.in_ w hw; omega, h.ap⟩
/-- one's windows' ticks -/
theorem cpu_sum {C : Cfg} (hR : Right C) {o : Int} (ho : 0 ≤ o) : cpuN C o C.F.toNat = sumO C.ws o C.ws.length := cnt_win ho (apt_w hR)
theorem cpu_idle {C : Cfg} (hR : Right C) : cntF (fun m => ¬ inS (C.ws.map slP) m) C.F.toNat = cpuN C (-1) C.F.toNat := cntF_congr _ fun m _ _ => (win_none (apt_w hR) (Int.le_refl _)).symm
theorem bus_sum {C : Cfg} (hR : Right C) {o : Int} (ho : 1 ≤ o) : busN C o C.F.toNat = sumO C.ss o C.ss.length := by
  rw [← cnt_win (by omega) ((apt_s hR).lo (by omega))]
  refine cntF_congr _ fun m _ _ => ?_
  rw [st_win (apt_s hR)]
  split <;> omega
theorem bus_idle {C : Cfg} (hR : Right C) : cntF (fun m => ¬ inS (C.ss.map slP) m) C.F.toNat = busN C 0 C.F.toNat := cntF_congr _ fun m _ _ => by
  rw [← win_none (apt_s hR) (by omega), st_win (apt_s hR)]
  rcases win_ge (apt_s hR) (m := m) with h | ⟨w, hw, _, h⟩
  · rw [h]; simp
  · have := ((apt_s hR).in_ w hw).1
    rw [h, if_neg (by omega)]
    omega
theorem sum_none {ws : List Slt} {o : Int} (h : ∀ w ∈ ws, w.1 ≠ o) : sumO ws o ws.length = 0 := by
  rw [sumO_all]
  have : (ws.map fun w => if w.1 = o then w.2.2 - w.2.1 else 0) = ws.map fun _ => (0 : Int) := List.map_congr_left fun w hw => if_neg (h w hw)
  rw [this]
  clear this h
  induction ws with
  | nil => rfl
  | cons w ws ih => rw [List.map_cons, List.sum_cons, ih]; rfl
theorem cnt_doc {xs : List Slt} {w : Int} : ∀ n : Nat, cntF (fun m => begO xs w m) n = (docS n xs w).length
  | 0 => rfl
  | n + 1 => by
    rw [cntF_succ, cnt_doc n, docS_succ]
    split
    · rw [List.length_append]; simp
    · simp
theorem raw_len {n : Int} {w : Int} : ∀ {xs : List Slt}, (∀ s ∈ xs, okS n s) → ((rawS xs w).length : Int) = (xs.map fun s => if s.1 = w then (s.2.2 - s.2.1) / 4 else 0).sum
  | [], _ => rfl
  | s :: xs, h => by
    have hs := h s (by simp)
    have ih := raw_len (n := n) (w := w) (xs := xs) (fun x hx => h x (by simp [hx]))
    rw [List.map_cons, List.sum_cons, ← ih]
    unfold rawS
    rw [List.filter_cons]
    by_cases hw : s.1 = w
    · rw [if_pos (by simpa using hw), List.flatMap_cons, List.length_append, if_pos hw]
      have : (unitsF s).length = ((s.2.2 - s.2.1) / 4).toNat := by simp [unitsF]
      rw [this]
      have h1 : s.2.1 < s.2.2 := hs.2.2.2.1
      omega
    · rw [if_neg (by simpa using hw), if_neg hw]
      omega
theorem unit_sum {C : Cfg} (hR : Right C) {o : Int} : uniN C o C.F.toNat = unF C o := by
  have hok := right_slots hR
  have h1 : uniN C o C.F.toNat = (rawS C.ss o).length := by
    rw [← sortI_len (rawS C.ss o), starts_eq hok]
    exact cnt_doc _
  rw [h1, raw_len (slOk_mem hok)]
  unfold unF unN
  rw [if_pos hR.f, List.take_length]
  congr 1
  refine List.map_congr_left fun s hs => ?_
  obtain ⟨i, hi, rfl⟩ := List.getElem_of_mem hs
  have hg : goodS C (cS C i) := Classical.byContradiction fun hn => hR.r8 i hi hn
  rw [show cS C i = C.ss[i] from by simp [cS, List.getD, hi]] at hg
  by_cases ho : C.ss[i].1 = o
  · rw [if_pos ho, if_pos ⟨ho, hg⟩]
  · rw [if_neg ho, if_neg (fun h => ho h.1)]
/-- what the first owners and nobody have -/
noncomputable def cpuA (C : Cfg) (k : Nat) : Int := cntF (fun m => winF C.ws m < k) C.F.toNat
noncomputable def busA (C : Cfg) (k : Nat) : Int := cntF (fun m => (stO C.ss m).1 = 0 ∨ (stO C.ss m).1 < k) C.F.toNat
theorem cpuA_zero {C : Cfg} (hR : Right C) : cpuA C 0 = cpuN C (-1) C.F.toNat := cntF_congr _ fun m _ _ => by
  rcases win_ge (apt_w hR) (m := m) with h | ⟨w, hw, _, h⟩
  · omega
  · have := ((apt_w hR).in_ w hw).1
    omega
theorem cpuA_succ {C : Cfg} (k : Nat) : cpuA C (k + 1) = cpuA C k + cpuN C k C.F.toNat := by
  unfold cpuA cpuN
  rw [← cntF_or _ (fun m _ _ a b => by omega)]
  exact cntF_congr _ fun m _ _ => by omega
theorem cpuA_all {C : Cfg} (hR : Right C) : cpuA C (C.xs.length + 1) = C.F := by
  have hf := hR.f
  unfold cpuA
  rw [cntF_all _ fun m _ _ => ?_]
  · omega
  · rcases win_ge (apt_w hR) (m := m) with h | ⟨w, hw, _, h⟩
    · omega
    · obtain ⟨i, hi, rfl⟩ := List.getElem_of_mem hw
      have hg : goodW C (cW C i) := Classical.byContradiction fun hn => hR.r4 i hi hn
      rw [show cW C i = C.ws[i] from by simp [cW, List.getD, hi]] at hg
      have := hg.1.2
      omega
theorem st_ge {C : Cfg} (hR : Right C) (m : Int) : 0 ≤ (stO C.ss m).1 ∧ (stO C.ss m).1 ≤ C.xs.length := by
  rw [st_win (apt_s hR)]
  rcases win_ge (apt_s hR) (m := m) with h | ⟨w, hw, _, h⟩
  · rw [h]; simp
  · have h1 := ((apt_s hR).in_ w hw).1
    rw [h, if_neg (by omega)]
    obtain ⟨i, hi, rfl⟩ := List.getElem_of_mem hw
    have hg : goodS C (cS C i) := Classical.byContradiction fun hn => hR.r8 i hi hn
    rw [show cS C i = C.ss[i] from by simp [cS, List.getD, hi]] at hg
    have := hg.1.2
    omega
theorem busA_zero {C : Cfg} (hR : Right C) : busA C 0 = busN C 0 C.F.toNat := cntF_congr _ fun m _ _ => by
  have := st_ge hR m
  omega
theorem sum_zero {C : Cfg} (hR : Right C) : sumO C.ss 0 C.ss.length = 0 := sum_none fun w hw => by
  have := ((apt_s hR).in_ w hw).1
  omega
theorem busA_succ {C : Cfg} (hR : Right C) (k : Nat) : busA C (k + 1) = busA C k + sumO C.ss k C.ss.length := by
  by_cases hk : k = 0
  · subst hk
    rw [show ((0 : Nat) : Int) = 0 from rfl, sum_zero hR, Int.add_zero]
    exact cntF_congr _ fun m _ _ => by have := st_ge hR m; omega
  · rw [← bus_sum hR (by omega)]
    unfold busA busN
    rw [← cntF_or _ (fun m _ _ a b => by omega)]
    exact cntF_congr _ fun m _ _ => by omega
theorem busA_all {C : Cfg} (hR : Right C) : busA C (C.xs.length + 1) = C.F := by
  have hf := hR.f
  unfold busA
  rw [cntF_all _ fun m _ _ => by have := st_ge hR m; omega]
  omega
theorem shRow_eq {C : Cfg} (hR : Right C) (k : Nat) : shRow C C.ws.length C.ss.length k = if k = 0 then ((k : Int), cpuN C k C.F.toNat, 0, 0, 0) else ((k : Int), cpuN C k C.F.toNat, busN C k C.F.toNat, uniN C k C.F.toNat, (C.xs.getD (k - 1) clE.d).q) := by
  unfold shRow
  rw [cpu_sum hR (by omega), unit_sum hR]
  by_cases hk : k = 0
  · subst hk
    rw [if_pos rfl, if_pos rfl, if_pos rfl, show ((0 : Nat) : Int) = 0 from rfl, sum_zero hR]
  · rw [if_neg hk, if_neg hk, if_neg hk, bus_sum hR (by omega)]
theorem Tryz.loadSharesLaw (C : Cfg) (L : List HP) (hB : CfB C) (h1 : Rd slE L C.wa C.ws) (h2 : Rd slE L C.sa C.ss) (h3 : Rd clE L C.ca C.xs) :
    Con Tryz.prog 4 [cfV C] L (Is (.bool true) L) := by
  have hfa := fun L h1 h2 h3 => Tryz.refFaults C L hB h1 h2 h3
  by_cases hR : Right C
  · have hf := hR.f
    have hsh := fun L h1 h2 h3 => Tryz.loadShares C L hB hR h1 h2 h3
    have hid := fun L h1 h2 h3 => Tryz.loadIdle C L hB hR h1 h2 h3
    rw [cpu_idle hR, bus_idle hR] at hid
    have hre := fun o L h1 h2 => Tryz.refShare C o L hR h1 h2
    have hlen := mapR_len (C.xs.length + 1) (shRow C C.ws.length C.ss.length)
    have hrow : ∀ k, k < C.xs.length + 1 → (mapR (C.xs.length + 1) (shRow C C.ws.length C.ss.length)).getD k shE.d = if k = 0 then ((k : Int), cpuN C k C.F.toNat, 0, 0, 0) else ((k : Int), cpuN C k C.F.toNat, busN C k C.F.toNat, uniN C k C.F.toNat, (C.xs.getD (k - 1) clE.d).q) := fun k hk => by
      rw [mapR_getD hk, shRow_eq hR]
    have hbus : ∀ k : Nat, k ≠ 0 → busN C k C.F.toNat = sumO C.ss k C.ss.length := fun k hk => bus_sum hR (by omega)
    have cz := cpuA_zero hR
    have bz := busA_zero hR
    have cs := cpuA_succ (C := C)
    have bs := busA_succ hR
    have ca := cpuA_all hR
    have ba := busA_all hR
    have s0 := sum_zero hR
    generalize mapR (C.xs.length + 1) (shRow C C.ws.length C.ss.length) = xs at *
    by_cases h300 : C.F ≤ 300
    · refine con_of Tryz.tysOk Tryz.func4 rfl rfl ?_
      conv => whnf
      repeat' (first
        | (first | ((with_reducible refine Br.ff ?_); conv => whnf) | ((with_reducible refine Br.df ?_ ?_); (focus (first | assumption | omega)); conv => whnf) | ((with_reducible refine Br.ndf ?_ ?_); (focus (first | assumption | omega)); conv => whnf))
        | ((with_reducible refine Ar.i64 ?_ ?_); (focus omega); conv => whnf)
        | ((with_reducible refine Nd.mk ?_ ?_); (focus (first | omega | rfl | assumption | (simp; done))); conv => whnf)
        | ((with_reducible refine Nc.go' (fun _ => ?_)); conv => whnf)
        | (refine Ld.at 1 rfl rfl ?_; conv => whnf)
        | (first | (refine LdN.at 0 rfl (by first | exact Nat.le_of_ble_eq_true rfl | (simp; done)) ?_; conv => whnf) | (refine LdN.at 1 rfl (by first | exact Nat.le_of_ble_eq_true rfl | (simp; done)) ?_; conv => whnf))
        | (first | ((with_reducible refine (?_ : Cl _ 10 _ _ _ _)); (refine Cl.exs (hsh _ (by ((repeat (first | assumption | apply Rd.cons)); done)) (by ((repeat (first | assumption | apply Rd.cons)); done)) (by ((repeat (first | assumption | apply Rd.cons)); done))) ?_; rintro ⟨al, cl⟩ ⟨p1, p2⟩; dsimp only at p1 p2); conv => whnf) | ((with_reducible refine Cl.is (hid _ (by ((repeat (first | assumption | apply Rd.cons)); done)) (by ((repeat (first | assumption | apply Rd.cons)); done)) (by ((repeat (first | assumption | apply Rd.cons)); done))) ?_); conv => whnf) | ((with_reducible refine (?_ : Cl _ 12 _ _ _ _)); (refine Cl.exs (hfa _ (by ((repeat (first | assumption | apply Rd.cons)); done)) (by ((repeat (first | assumption | apply Rd.cons)); done)) (by ((repeat (first | assumption | apply Rd.cons)); done))) ?_; rintro y2 ⟨hl2, he2⟩; have hz2 : y2.2.2.length = 0 := by rw [he2.2 hR]; rfl); conv => whnf)))
      rename_i b1
      conv => whnf
      refine Lp.by3 Tryz.tysOk [10, 8, 9] (fun (k : Nat) (a b : Int) => [.int .i64 k, n64 a, n64 b]) (fun k a b => own shE 45 al cl xs :: ptc b1 26 (cfC C) :: L) (fun k a b => k ≤ C.xs.length + 1 ∧ a = cpuA C k ∧ b = busA C k) (fun k a b => C.xs.length + 1 - k) (0) (cpuN C (-1) C.F.toNat) (busN C 0 C.F.toNat) (by kernel_rfl) (by (exact Ent.rfl)) (⟨by omega, cz.symm, bz.symm⟩) ?_
      rintro k a b ⟨u1, u2, u3⟩
      conv => whnf
      repeat (intro _; conv => whnf)
      have a1 : 0 ≤ a ∧ a ≤ C.F.toNat := by rw [u2]; exact cntF_bd _ _
      have a2 : 0 ≤ b ∧ b ≤ C.F.toNat := by rw [u3]; exact cntF_bd _ _
      have a3 : 0 ≤ cpuN C k C.F.toNat ∧ cpuN C k C.F.toNat ≤ C.F.toNat := cntF_bd _ _
      have a4 : 0 ≤ busN C k C.F.toNat ∧ busN C k C.F.toNat ≤ C.F.toNat := cntF_bd _ _
      by_cases hk : k < C.xs.length + 1
      · have hr := hrow k hk
        have cs := cs k
        have bs := bs k
        have hre := hre k
        have hbus := hbus k
        clear hrow cz bz ca ba he2
        by_cases hk0 : k = 0
        · rw [if_pos hk0] at hr
          have y1 : (xs.getD k shE.d).1 = k := by rw [hr]
          have y2 : (xs.getD k shE.d).2.1 = cpuN C k C.F.toNat := by rw [hr]
          have y3 : (xs.getD k shE.d).2.2.1 = 0 := by rw [hr]
          have y4 : (xs.getD k shE.d).2.2.2.1 = 0 := by rw [hr]
          have y5 : (xs.getD k shE.d).2.2.2.2 = 0 := by rw [hr]
          have cs2 : cpuA C (k + 1) = a + (xs.getD k shE.d).2.1 := by rw [cs, y2, u2]
          have bs2 : busA C (k + 1) = b + (xs.getD k shE.d).2.2.1 := by rw [bs, y3, u3, hk0]; rw [show ((0 : Nat) : Int) = 0 from rfl, s0]
          clear hr
          conv => whnf
          repeat' (first
            | (first | ((with_reducible refine Br.dt ?_ ?_); (focus (first | assumption | omega)); conv => whnf) | ((with_reducible refine Br.df ?_ ?_); (focus (first | assumption | omega)); conv => whnf) | ((with_reducible refine Br.ndf ?_ ?_); (focus (first | assumption | omega)); conv => whnf))
            | ((with_reducible refine Ar.i64 ?_ ?_); (focus omega); conv => whnf)
            | ((with_reducible refine Nd.mk ?_ ?_); (focus (first | omega | rfl | assumption | (simp; done))); conv => whnf)
            | ((with_reducible refine Nc.go' (fun _ => ?_)); conv => whnf)
            | ((with_reducible refine Ix.ad ?_ ?_ ?_); (focus (assumption)); (focus (omega)); conv => whnf)
            | ((with_reducible apply Ld.rdk); (focus ((repeat ((refine Rd.own 1 rfl ?_); (assumption))); done)); (focus rfl); (focus (omega)); (focus rfl); conv => whnf)
            | (first | ((with_reducible apply LdN.rdk); (focus ((repeat ((refine Rd.own 1 rfl ?_); (assumption))); done)); (focus rfl); (focus rfl); (focus (omega)); conv => whnf) | (refine LdN.at 0 rfl (by first | exact Nat.le_of_ble_eq_true rfl | (simp; done)) ?_; conv => whnf) | (refine LdN.at 1 rfl (by first | exact Nat.le_of_ble_eq_true rfl | (simp; done)) ?_; conv => whnf))
            | (refine St.at 0 rfl (by first | exact Nat.le_of_ble_eq_true rfl | (simp; done)) rfl ?_; conv => whnf)
            | ((with_reducible refine Dr.by (id := 17) Tryz.tysOk rfl [(0, 0), (1, 0), (2, 0), (3, 1), (4, 1), (5, 0)] ?_ ?_); (focus kernel_rfl); conv => whnf)
            | ((with_reducible refine Cl.is (hre _ (by ((repeat (first | assumption | apply Rd.cons)); done)) (by ((repeat (first | assumption | apply Rd.cons)); done))) ?_); conv => whnf))
          all_goals first | exact ⟨k + 1, a + (xs.getD k shE.d).2.1, b + (xs.getD k shE.d).2.2.1, by kernel_rfl, by (refine FEnt.ent ?_; (repeat (first | exact FEnt.rfl | (refine FEnt.at 1 rfl ?_; (try simp only [List.eraseIdx_cons_zero, List.eraseIdx_cons_succ, List.eraseIdx_zero, List.tail_cons])) | refine FEnt.drop ?_)); done), ⟨by omega, cs2.symm, bs2.symm⟩, by omega⟩ | (exfalso; omega)
        · rw [if_neg hk0] at hr
          have hq : ((k : Int) - 1).toNat = k - 1 := by omega
          have y1 : (xs.getD k shE.d).1 = k := by rw [hr]
          have y2 : (xs.getD k shE.d).2.1 = cpuN C k C.F.toNat := by rw [hr]
          have y3 : (xs.getD k shE.d).2.2.1 = busN C k C.F.toNat := by rw [hr]
          have y4 : (xs.getD k shE.d).2.2.2.1 = uniN C k C.F.toNat := by rw [hr]
          have y5 : (xs.getD k shE.d).2.2.2.2 = (C.xs.getD ((k : Int) - 1).toNat clE.d).q := by rw [hr, hq]
          have cs2 : cpuA C (k + 1) = a + (xs.getD k shE.d).2.1 := by rw [cs, y2, u2]
          have bs2 : busA C (k + 1) = b + (xs.getD k shE.d).2.2.1 := by rw [bs, y3, u3, hbus hk0]
          clear hr hbus
          conv => whnf
          repeat' (first
            | (first | ((with_reducible refine Br.dt ?_ ?_); (focus (first | assumption | omega)); conv => whnf) | ((with_reducible refine Br.ndf ?_ ?_); (focus (first | assumption | omega)); conv => whnf))
            | ((with_reducible refine Ar.i64 ?_ ?_); (focus omega); conv => whnf)
            | ((with_reducible refine Nd.mk ?_ ?_); (focus (first | omega | rfl | assumption | (simp; done))); conv => whnf)
            | ((with_reducible refine Nc.go' (fun _ => ?_)); conv => whnf)
            | ((with_reducible refine Ix.ad ?_ ?_ ?_); (focus (first | assumption | exact Rd.ad (by assumption))); (focus (omega)); conv => whnf)
            | (first | ((first | (with_reducible apply Ld.rdk) | apply Ld.rd); (focus ((repeat (first | assumption | ((refine Rd.own 1 rfl ?_); (assumption)) | apply Rd.cons)); done)); (focus rfl); (focus (omega)); (focus rfl); conv => whnf) | (refine Ld.at 2 rfl rfl ?_; conv => whnf))
            | (first | ((with_reducible apply LdN.rdk); (focus ((repeat ((refine Rd.own 1 rfl ?_); (assumption))); done)); (focus rfl); (focus rfl); (focus (omega)); conv => whnf) | (refine LdN.at 0 rfl (by first | exact Nat.le_of_ble_eq_true rfl | (simp; done)) ?_; conv => whnf) | (refine LdN.at 1 rfl (by first | exact Nat.le_of_ble_eq_true rfl | (simp; done)) ?_; conv => whnf))
            | (refine St.at 0 rfl (by first | exact Nat.le_of_ble_eq_true rfl | (simp; done)) rfl ?_; conv => whnf)
            | ((with_reducible refine Dr.by (id := 17) Tryz.tysOk rfl [(0, 0), (1, 0), (2, 0), (3, 1), (4, 1), (5, 0)] ?_ ?_); (focus kernel_rfl); conv => whnf)
            | ((with_reducible refine Cl.is (hre _ (by ((repeat (first | assumption | apply Rd.cons)); done)) (by ((repeat (first | assumption | apply Rd.cons)); done))) ?_); conv => whnf))
          all_goals first | exact ⟨k + 1, a + (xs.getD k shE.d).2.1, b + (xs.getD k shE.d).2.2.1, by kernel_rfl, by (refine FEnt.ent ?_; (repeat (first | exact FEnt.rfl | (refine FEnt.at 1 rfl ?_; (try simp only [List.eraseIdx_cons_zero, List.eraseIdx_cons_succ, List.eraseIdx_zero, List.tail_cons])) | refine FEnt.drop ?_)); done), ⟨by omega, cs2.symm, bs2.symm⟩, by omega⟩ | (exfalso; omega)
      · have e : k = C.xs.length + 1 := by omega
        subst e
        rw [ca] at u2
        rw [ba] at u3
        subst u2 u3
        clear hrow hbus cs bs cz bz ca ba he2
        conv => whnf
        repeat' (first
          | (first | ((with_reducible refine Br.tt ?_); conv => whnf) | ((with_reducible refine Br.dt ?_ ?_); (focus (first | assumption | omega)); conv => whnf) | ((with_reducible refine Br.df ?_ ?_); (focus (first | assumption | omega)); conv => whnf))
          | ((with_reducible refine Nd.mk ?_ ?_); (focus (first | omega | rfl | assumption | (simp; done))); conv => whnf)
          | (refine Ld.at 1 rfl rfl ?_; conv => whnf)
          | (refine LdN.at 1 rfl (by first | exact Nat.le_of_ble_eq_true rfl | (simp; done)) ?_; conv => whnf)
          | (first | ((with_reducible refine Cl.is (hre _ _ (by ((repeat (first | assumption | apply Rd.cons)); done)) (by ((repeat (first | assumption | apply Rd.cons)); done))) ?_); conv => whnf) | ((with_reducible refine Cl.is (Tryz.loadLive _) ?_); conv => whnf)))
        all_goals first | (refine Is.ent ?_ ?_; (focus (refine FEnt.ent ?_; (repeat (first | exact FEnt.rfl | refine FEnt.drop ?_)); done)); (exact Is.ttr (by first | assumption | omega))) | (exfalso; omega)
    · refine con_of Tryz.tysOk Tryz.func4 rfl rfl ?_
      conv => whnf
      repeat' (first
        | (first | ((with_reducible refine Br.ff ?_); conv => whnf) | ((with_reducible refine Br.dt ?_ ?_); (focus (first | assumption | omega)); conv => whnf) | ((with_reducible refine Br.df ?_ ?_); (focus (first | assumption | omega)); conv => whnf) | ((with_reducible refine Br.ndf ?_ ?_); (focus (first | assumption | omega)); conv => whnf))
        | ((with_reducible refine Ar.i64 ?_ ?_); (focus omega); conv => whnf)
        | ((with_reducible refine Nd.mk ?_ ?_); (focus (first | omega | rfl | assumption | (simp; done))); conv => whnf)
        | ((with_reducible refine Nc.go' (fun _ => ?_)); conv => whnf)
        | (refine Ld.at 1 rfl rfl ?_; conv => whnf)
        | (first | (refine LdN.at 0 rfl (by first | exact Nat.le_of_ble_eq_true rfl | (simp; done)) ?_; conv => whnf) | (refine LdN.at 1 rfl (by first | exact Nat.le_of_ble_eq_true rfl | (simp; done)) ?_; conv => whnf))
        | (first | ((with_reducible refine (?_ : Cl _ 10 _ _ _ _)); (refine Cl.exs (hsh _ (by ((repeat (first | assumption | apply Rd.cons)); done)) (by ((repeat (first | assumption | apply Rd.cons)); done)) (by ((repeat (first | assumption | apply Rd.cons)); done))) ?_; rintro ⟨al, cl⟩ ⟨p1, p2⟩; dsimp only at p1 p2); conv => whnf) | ((with_reducible refine Cl.is (hid _ (by ((repeat (first | assumption | apply Rd.cons)); done)) (by ((repeat (first | assumption | apply Rd.cons)); done)) (by ((repeat (first | assumption | apply Rd.cons)); done))) ?_); conv => whnf) | ((with_reducible refine (?_ : Cl _ 12 _ _ _ _)); (refine Cl.exs (hfa _ (by ((repeat (first | assumption | apply Rd.cons)); done)) (by ((repeat (first | assumption | apply Rd.cons)); done)) (by ((repeat (first | assumption | apply Rd.cons)); done))) ?_; rintro y2 ⟨hl2, he2⟩; have hz2 : y2.2.2.length = 0 := by rw [he2.2 hR]; rfl); conv => whnf) | ((with_reducible refine Cl.is (Tryz.loadLive _) ?_); conv => whnf)))
      all_goals first | (refine Is.ent ?_ ?_; (focus (refine FEnt.ent ?_; (repeat (first | exact FEnt.rfl | refine FEnt.drop ?_)); done)); (exact Is.rfl)) | (exfalso; omega)
  · have hsh := fun L h1 h2 h3 => Tryz.loadSharesNo C L hB hR h1 h2 h3
    have hid := fun L h1 h2 h3 => Tryz.loadIdleNo C L hB hR h1 h2 h3
    refine con_of Tryz.tysOk Tryz.func4 rfl rfl ?_
    conv => whnf
    repeat' (first
      | (first | ((with_reducible refine Br.tt ?_); conv => whnf) | ((with_reducible refine Br.dt ?_ ?_); (focus (first | assumption | omega)); conv => whnf))
      | ((with_reducible refine Ar.i64 ?_ ?_); (focus omega); conv => whnf)
      | ((with_reducible refine Nd.mk ?_ ?_); (focus (first | omega | rfl | assumption | (simp; done))); conv => whnf)
      | ((with_reducible refine Nc.go' (fun _ => ?_)); conv => whnf)
      | (refine LdN.at 0 rfl (by first | exact Nat.le_of_ble_eq_true rfl | (simp; done)) ?_; conv => whnf)
      | (first | ((with_reducible refine Cl.is (hsh _ (by ((repeat (first | assumption | apply Rd.cons)); done)) (by ((repeat (first | assumption | apply Rd.cons)); done)) (by ((repeat (first | assumption | apply Rd.cons)); done))) ?_); conv => whnf) | ((with_reducible refine Cl.is (hid _ (by ((repeat (first | assumption | apply Rd.cons)); done)) (by ((repeat (first | assumption | apply Rd.cons)); done)) (by ((repeat (first | assumption | apply Rd.cons)); done))) ?_); conv => whnf) | ((with_reducible refine (?_ : Cl _ 12 _ _ _ _)); (refine Cl.exs (hfa _ (by ((repeat (first | assumption | apply Rd.cons)); done)) (by ((repeat (first | assumption | apply Rd.cons)); done)) (by ((repeat (first | assumption | apply Rd.cons)); done))) ?_; rintro y2 ⟨hl2, he2⟩; have hz2 : 0 < y2.2.2.length := List.length_pos_iff.2 (fun h => hR (he2.1 h))); conv => whnf) | ((with_reducible refine Cl.is (Tryz.loadLive _) ?_); conv => whnf)))
    all_goals first | (refine Is.ent ?_ ?_; (focus (refine FEnt.ent ?_; (repeat (first | exact FEnt.rfl | refine FEnt.drop ?_)); done)); (exact Is.rfl)) | (exfalso; omega)
end Go.Proofs
