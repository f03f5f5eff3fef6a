/- The engine of bursts: what must be whatever is asked; whole plays. -/
import Derived.Test.YtpdgkadpffnmpaaDmaC
set_option linter.all false
namespace Go.Proofs
open Go.Eng
set_option linter.unusedVariables false
set_option maxRecDepth 100000
set_option maxHeartbeats 2000000
theorem txt_lay {M ys : List UInt8} {k i j : Nat} (h : k + ys.length ≤ M.length) (hj : i + j ≤ ys.length) : txtF (lay M k ys) ((k + i : Nat) : Int) j = ⟨((ys.take (i + j)).drop i).toArray⟩ := by
  have hk : (M.take k).length = k := by rw [List.length_take]; omega
  unfold txtF lay
  simp only [Int.toNat_natCast]
  congr 2
  have e : ∀ (P R : List UInt8), P.length = k → List.drop (k + i) (List.take (k + i + j) (P ++ ys ++ R)) = List.drop i (List.take (i + j) ys) := by
    intro P R hP
    subst hP
    rw [List.append_assoc, List.drop_take, ← List.drop_drop, List.drop_left, List.drop_append, List.take_append, List.drop_take]
    rw [show i + j - i = P.length + i + j - (P.length + i) from by omega]
    rw [show P.length + i + j - (P.length + i) - (List.drop i ys).length = 0 from by rw [List.length_drop]; omega]
    simp
  exact e _ _ hk
theorem ask_live1 : askF [(1, 200, 64)] 400 1 62 4 = (0, 6) := by decide
theorem ask_live2 : askF [(1, 200, 64)] 400 1 60 4 = (260, 0) := by decide
theorem ask_live3 : askF [(1, 200, 64)] 400 1 61 2 = (261, 0) := by decide
theorem rg_live : rgOk [(1, 200, 64)] ([(1, 200, 64)] : List Rg).length := fun i hi => by
  have e : i = 0 := by simp at hi; exact hi
  subst e
  exact ⟨by decide, fun j hj => by omega⟩
theorem Try.dmaLive (L : List HP) : Con Try.prog 7 [] L (Is (.bool true) L) := by
  have hzl : (zeros (min (max (400 : Int) 0) 16384).toNat).length = 400 := by rw [List.length_replicate]; rfl
  have hnw := fun L => Try.memNew 400 L ⟨by omega, by omega⟩
  generalize zeros (min (max (400 : Int) 0) 16384).toNat = M at *
  obtain ⟨es, hes⟩ : ∃ es, es = ([(1, 200, 64)] : List Rg).map kvR := ⟨_, rfl⟩
  have hrn : ∀ a c L, Rd rgE L a [(1, 200, 64)] → Con Try.prog 9 [.slice a ([(1, 200, 64)] : List Rg).length c] L (Exs (fun y : Nat × Nat => .tuple #[pV y.1, i64V 0]) (fun y => ptc y.1 74 [.map (some y.2)] :: mapH y.2 (.int .i64) es :: L) (fun _ => True)) := fun a c L h => by
    rw [hes]; exact Try.regNew a c [(1, 200, 64)] L (by decide) rg_live h
  have hw1 : ∀ (be bm bt m : Nat) (L : List HP), Con Try.prog 20 [pV be, i64V 5, i64V 1, i64V 62, .string ⟨#[97, 98, 99, 100]⟩] (ptc be 79 (engC bm bt none 0 0 (fun _ => 0) (fun _ => 0)) :: ptc bt 74 [.map (some m)] :: mapH m (.int .i64) es :: own recE 45 none 0 [] :: Try.memH bm M :: L)
      (Exs (fun y : Option Addr × Nat => i64V 6) (fun y => ptc be 79 (engC bm bt y.1 1 y.2 (fun _ => 0) (fun _ => 0)) :: ptc bt 74 [.map (some m)] :: mapH m (.int .i64) es :: own recE 45 y.1 y.2 [(5, 1, 62, 4, true, 6)] :: Try.memH bm M :: L) (fun y => 1 ≤ y.2 ∧ Ad y.1 1)) := fun be bm bt m L => by
    have := Try.dmaWrite be bm bt m 0 none [] (fun _ => 0) (fun _ => 0) [(1, 200, 64)] 5 1 62 ⟨#[97, 98, 99, 100]⟩ M L (by decide) (fun h => (h rfl).elim) (by decide) rg_live ⟨by decide, by decide⟩ (by decide) (by omega) (fun i => ⟨by decide, by decide⟩)
    rw [hzl] at this
    rw [hes]
    exact this
  obtain ⟨M2, hM2⟩ : ∃ M2, M2 = lay M 260 [97, 98, 99, 100] := ⟨_, rfl⟩
  obtain ⟨nw, hnw2⟩ : ∃ nw : Nat → Int, nw = upd (fun _ => 0) 1 (0 + 4) := ⟨_, rfl⟩
  have hw2 : ∀ (be bm bt m : Nat) (a : Option Addr) (c : Nat) (h1 : Ad a 1) (h2 : 1 ≤ c) (L : List HP), Con Try.prog 20 [pV be, i64V 6, i64V 1, i64V 60, .string ⟨#[97, 98, 99, 100]⟩] (ptc be 79 (engC bm bt a 1 c (fun _ => 0) (fun _ => 0)) :: ptc bt 74 [.map (some m)] :: mapH m (.int .i64) es :: own recE 45 a c [(5, 1, 62, 4, true, 6)] :: Try.memH bm M :: L)
      (Exs (fun y : Option Addr × Nat => i64V 0) (fun y => ptc be 79 (engC bm bt y.1 1 y.2 (fun _ => 0) nw) :: ptc bt 74 [.map (some m)] :: mapH m (.int .i64) es :: own recE 45 y.1 y.2 [(5, 1, 62, 4, true, 6)] :: Try.memH bm M2 :: L) (fun y => 1 ≤ y.2 ∧ Ad y.1 1)) := fun be bm bt m a c h1 h2 L => by
    have := Try.dmaWrite be bm bt m c a [(5, 1, 62, 4, true, 6)] (fun _ => 0) (fun _ => 0) [(1, 200, 64)] 6 1 60 ⟨#[97, 98, 99, 100]⟩ M L (by decide) h1 h2 rg_live ⟨by decide, by decide⟩ (by decide) (by omega) (fun i => ⟨by decide, by decide⟩)
    rw [hzl] at this
    rw [hes, hM2, hnw2]
    exact this
  have hll : M2.length = 400 := by rw [hM2, lay_len (by rw [hzl]; decide), hzl]
  have htx : txtF M2 261 2 = ⟨#[98, 99]⟩ := by rw [hM2]; exact txt_lay (M := M) (ys := [97, 98, 99, 100]) (k := 260) (i := 1) (j := 2) (by rw [hzl]; decide) (by decide)
  have hw3 : ∀ (be bm bt m : Nat) (a : Option Addr) (c : Nat) (h1 : Ad a 1) (h2 : 1 ≤ c) (L : List HP), Con Try.prog 26 [pV be, i64V 7, i64V 1, i64V 61, i64V 2] (ptc be 79 (engC bm bt a 1 c (fun _ => 0) nw) :: ptc bt 74 [.map (some m)] :: mapH m (.int .i64) es :: own recE 45 a c [(5, 1, 62, 4, true, 6)] :: Try.memH bm M2 :: L)
      (Exs (fun y : Option Addr × Nat => .tuple #[.string ⟨#[98, 99]⟩, i64V 0]) (fun y => ptc be 79 (engC bm bt y.1 1 y.2 (upd (fun _ => 0) 1 (0 + 2)) nw) :: ptc bt 74 [.map (some m)] :: mapH m (.int .i64) es :: own recE 45 y.1 y.2 [(5, 1, 62, 4, true, 6)] :: Try.memH bm M2 :: L) (fun y => 1 ≤ y.2 ∧ Ad y.1 1)) := fun be bm bt m a c h1 h2 L => by
    have := Try.dmaRead be bm bt m c a [(5, 1, 62, 4, true, 6)] (fun _ => 0) nw [(1, 200, 64)] 7 1 61 2 M2 L (by decide) h1 h2 rg_live ⟨by decide, by decide⟩ ⟨by decide, by decide⟩ (by omega) (fun i => ⟨by decide, by decide⟩)
    rw [hll] at this
    rw [← htx, hes]
    exact this
  have hrc := fun be bm bt a c L had => Try.dmaRecords be bm bt c a [(5, 1, 62, 4, true, 6)] (upd (fun _ => 0) 1 (0 + 2)) nw L (by decide) had
  have e98 : (⟨#[98, 99]⟩ : ByteArray) = ⟨#[98, 99]⟩ := rfl
  clear hM2 hnw2 hes htx
  generalize upd (fun _ => (0 : Int)) 1 (0 + 2) = nr at *
  refine con_of Try.tysOk Try.func7 rfl rfl ?_
  conv => whnf
  repeat' (first
    | (first | ((with_reducible refine Br.tt ?_); conv => whnf) | ((with_reducible refine Br.dt ?_ ?_); (focus (first | assumption | omega)); conv => whnf) | ((with_reducible refine Br.yes ?_ ?_); (focus (first | (simp; done) | (simp; omega))); conv => whnf))
    | ((with_reducible refine Nd.mk ?_ ?_); (focus (first | omega | rfl | assumption | (simp; done))); conv => whnf)
    | ((with_reducible refine Nc.go' (fun _ => ?_)); conv => whnf)
    | ((with_reducible refine Ix.ad ?_ ?_ ?_); (focus (assumption)); (focus ((simp only [List.length_append, List.length_cons, List.length_nil]); omega)); conv => whnf)
    | ((apply LdN.rd); (focus ((repeat ((refine Rd.own 0 rfl ?_); (assumption))); done)); (focus rfl); (focus rfl); (focus ((simp only [List.length_append, List.length_cons, List.length_nil]); omega)); conv => whnf)
    | (first | ((with_reducible refine Cl.exs (hnw _) (fun bm _ => ?_)); conv => whnf) | ((with_reducible refine Cl.exs (Try.dmaNew _ _ _) (fun be _ => ?_)); conv => whnf) | ((with_reducible refine (?_ : Cl _ 20 _ _ _ _)); (first | (apply (Cl.pre [ptc be _ _, ptc bt _ _, mapH m _ _, own recE 45 none 0 [], Try.memH bm _]); (focus ((repeat (first | exact FEnt.rfl | (refine FEnt.at 0 rfl ?_; (try simp only [List.eraseIdx_cons_zero, List.eraseIdx_cons_succ, List.eraseIdx_zero, List.tail_cons])) | (refine FEnt.at 1 rfl ?_; (try simp only [List.eraseIdx_cons_zero, List.eraseIdx_cons_succ, List.eraseIdx_zero, List.tail_cons])) | refine FEnt.nil ?_)); done)); refine Cl.exs (hw1 _ _ _ _ _) ?_; rintro ⟨a1, c1⟩ ⟨hc1, had1⟩) | (apply (Cl.pre [ptc be _ _, ptc bt _ _, mapH m _ _, own recE _ _ _ _, Try.memH bm _]); (focus ((repeat (exact FEnt.rfl)); done)); refine Cl.exs (hw2 _ _ _ _ _ _ had1 hc1 _) ?_; rintro ⟨a2, c2⟩ ⟨hc2, had2⟩)); conv => whnf) | (apply (Cl.pre [ptc be _ _, ptc bt _ _, mapH m _ _, own recE _ a2 _ _, Try.memH bm _]); (focus ((repeat (first | exact FEnt.rfl | (refine FEnt.at 0 rfl ?_; (try simp only [List.eraseIdx_cons_zero, List.eraseIdx_cons_succ, List.eraseIdx_zero, List.tail_cons])) | refine FEnt.drop ?_)); done)); refine Cl.exs (hw3 _ _ _ _ _ _ had2 hc2 _) ?_; rintro ⟨a3, c3⟩ ⟨hc3, had3⟩; conv => whnf) | (apply (Cl.pre [ptc be _ _, own recE _ a3 _ _]); (focus (repeat (first | exact FEnt.rfl | (refine FEnt.at 0 rfl ?_; (try simp only [List.eraseIdx_cons_zero, List.eraseIdx_cons_succ, List.eraseIdx_zero, List.tail_cons])) | (refine FEnt.at 2 rfl ?_; (try simp only [List.eraseIdx_cons_zero, List.eraseIdx_cons_succ, List.eraseIdx_zero, List.tail_cons])))); done); refine Cl.new (hrc _ _ _ _ _ _ had3) (fun _ _ _ _ => ?_); conv => whnf))
    | ((refine Cl.exs (hrn _ _ _ (Rd.ptc 0 rfl [(1, 200, 64)] rfl)) ?_; rintro ⟨bt, m⟩ -); conv => whnf))
  all_goals (refine Is.ent ?_ ?_; (focus (refine FEnt.ent ?_; (repeat (first | exact FEnt.rfl | refine FEnt.drop ?_)); done)); (exact Is.rfl))
/-! the rows, and the bursts, that are gone through -/
abbrev xs8 (xs : List Rg) : List Rg := xs.take (min (xs.length : Int) 8).toNat
abbrev ds20 (ds : List Bd) : List Bd := ds.take (min (ds.length : Int) 20).toNat
abbrev bdI (d : Bd) : Prop := I64 d.1 ∧ I64 d.2.1 ∧ I64 d.2.2.1 ∧ I64 d.2.2.2.1
structure FewP (xs : List Rg) (ds : List Bd) : Prop where
  texts : ∀ i, i < (ds20 ds).length → ((ds20 ds).getD i bdE.d).2.2.2.2.2.size ≤ 200
  rows : rgOk (xs8 xs) (xs8 xs).length
theorem xs8_len (xs : List Rg) : (xs8 xs).length ≤ 8 := by rw [List.length_take]; omega
theorem ds20_len (ds : List Bd) : (ds20 ds).length ≤ 20 := by rw [List.length_take]; omega
theorem Try.dmaFew (ax ad0 : Option Addr) (cx cd : Nat) (xs : List Rg) (ds : List Bd) (L : List HP) (hx : ∀ x ∈ xs, rgB x) (hcx : xs.length ≤ cx) (hcd : ds.length ≤ cd) (hm : cd ≤ 9223372036854775807) (hm2 : cx ≤ 9223372036854775807) (hr : Rd rgE L ax xs) (hr2 : Rd bdE L ad0 ds) :
    Con Try.prog 6 [.slice ax xs.length cx, .slice ad0 ds.length cd] L (Exs (fun b : Bool => .tuple #[.slice ax (xs8 xs).length cx, .slice ad0 (ds20 ds).length cd, .bool b]) (fun _ => L) (fun b => b = true ↔ FewP xs ds)) := by
  have h8 := xs8_len xs
  have h20 := ds20_len ds
  have hx8 : ∀ x ∈ xs8 xs, rgB x := fun x h => hx x (List.mem_of_mem_take h)
  have hfp : FewP xs ds ↔ ((∀ i, i < (ds20 ds).length → ((ds20 ds).getD i bdE.d).2.2.2.2.2.size ≤ 200) ∧ rgOk (xs8 xs) (xs8 xs).length) := ⟨fun h => ⟨h.1, h.2⟩, fun h => ⟨h.1, h.2⟩⟩
  rw [hfp]
  have hr8 : Rd rgE L ax (xs8 xs) := hr.take _
  have hr20 : Rd bdE L ad0 (ds20 ds) := hr2.take _
  refine con_of Try.tysOk Try.func6 rfl rfl ?_
  conv => whnf
  repeat' (first
    | ((with_reducible refine Sub.pre ?_ rfl ?_ ?_ ?_); (focus (first | exact Or.inl rfl | exact Or.inr ⟨_, rfl⟩)); (focus (omega)); (focus (omega)); conv => whnf)
    | ((with_reducible refine Dr.by (id := 1) Try.tysOk rfl [(0, 0), (1, 0), (2, 0), (3, 0), (4, 0), (5, 0), (6, 0), (7, 0), (8, 0), (9, 0), (10, 0), (11, 0)] ?_ ?_); (focus kernel_rfl); conv => whnf))
  clear hfp hx hr hr2
  simp only [xs8, ds20] at *
  generalize List.take (min (xs.length : Int) 8).toNat xs = ys at *
  generalize List.take (min (ds.length : Int) 20).toNat ds = es at *
  conv => whnf
  refine Lp.by Try.tysOk [7] (fun (k : Nat) => [.int .i64 k]) (fun k => L) (fun k => k ≤ es.length ∧ ∀ i, i < k → (es.getD i bdE.d).2.2.2.2.2.size ≤ 200) (fun k => es.length - k) (0) (by kernel_rfl) (by (exact Ent.rfl)) (⟨by omega, fun i h => by omega⟩) ?_
  rintro k ⟨h1, h2⟩
  conv => whnf
  repeat (intro _; conv => whnf)
  by_cases hk : k < es.length
  · by_cases hs : (es.getD k bdE.d).2.2.2.2.2.size ≤ 200
    · conv => whnf
      repeat' (first
        | (first | ((with_reducible refine Br.dt ?_ ?_); (focus (first | assumption | omega)); conv => whnf) | ((with_reducible refine Br.df ?_ ?_); (focus (first | assumption | omega)); conv => whnf))
        | ((with_reducible refine Ar.i64 ?_ ?_); (focus omega); conv => whnf)
        | ((with_reducible refine Ix.ad ?_ ?_ ?_); (focus (exact Rd.ad (by assumption))); (focus (omega)); conv => whnf)
        | ((with_reducible apply Ld.rdk); (focus ((repeat (assumption)); done)); (focus rfl); (focus (omega)); (focus rfl); conv => whnf))
      refine ⟨k + 1, by kernel_rfl, by (exact Ent.rfl), ⟨by omega, lt_step h2 hs⟩, by omega⟩
    · conv => whnf
      repeat' (first
        | ((with_reducible refine Br.dt ?_ ?_); (focus (first | assumption | omega)); conv => whnf)
        | ((with_reducible refine Ix.ad ?_ ?_ ?_); (focus (exact Rd.ad (by assumption))); (focus (omega)); conv => whnf)
        | ((with_reducible apply Ld.rdk); (focus ((repeat (assumption)); done)); (focus rfl); (focus (omega)); (focus rfl); conv => whnf))
      all_goals exact Exs.of false (by (exact Ent.rfl)) ⟨fun h => absurd h (by decide), fun h => (hs (h.1 k hk)).elim⟩ rfl
  · conv => whnf
    repeat' (first
      | ((with_reducible refine Br.df ?_ ?_); (focus (first | assumption | omega)); conv => whnf)
      | ((with_reducible refine (?_ : Cl _ 27 _ _ _ _)); (refine Cl.exs (Try.refCheck _ _ ys _ hx8 h8 (by ((repeat (assumption)); done))) ?_; rintro e he); conv => whnf))
    all_goals exact Exs.of (decide (e = 0)) (by (exact Ent.rfl)) ⟨fun h => ⟨fun i hi => h2 i (by omega), he.1 (of_decide_eq_true h)⟩, fun h => decide_eq_true (he.2 h.2)⟩ rfl
/-- the state of a play: bytes, records, what was read and written -/
theorem upd_bd {r : Nat → Int} {n k : Nat} {v : Int} (h : ∀ i, 0 ≤ r i ∧ r i ≤ 100 * k) (hv : 0 ≤ v ∧ v ≤ r n + 100) : ∀ i, 0 ≤ upd r n v i ∧ upd r n v i ≤ 100 * (k + 1 : Nat) := fun i => by
  unfold upd
  split
  · rename_i e
    have := h n
    omega
  · have := h i
    omega
theorem bd_next {r : Nat → Int} {k : Nat} (h : ∀ i, 0 ≤ r i ∧ r i ≤ 100 * k) : ∀ i, 0 ≤ r i ∧ r i ≤ 100 * (k + 1 : Nat) := fun i => by
  have := h i
  omega
theorem snoc_at {rs : List Rec} {r : Rec} {n : Nat} (h : rs.length = n) : (rs ++ [r]).getD (((n : Int) + 1 - 1).toNat) recE.d = r := by
  have e : ((n : Int) + 1 - 1).toNat = rs.length := by omega
  rw [e]
  simp [List.getD]
theorem lay_len' {M : List UInt8} {ys : List UInt8} {k : Int} (h : thr M.length k ys.length) : (lay M k.toNat ys).length = M.length := lay_len (by omega)
theorem Try.dmaPlaysLaw (size : Int) (ax : Option Addr) (cx : Nat) (xs : List Rg) (ad0 : Option Addr) (cd : Nat) (ds : List Bd) (L : List HP) (hz : I64 size) (hx : ∀ x ∈ xs, rgB x) (hd : ∀ d ∈ ds, bdI d) (hcx : xs.length ≤ cx) (hm2 : cx ≤ 9223372036854775807) (hr : Rd rgE L ax xs) (hcd : ds.length ≤ cd) (hm : cd ≤ 9223372036854775807) (hr2 : Rd bdE L ad0 ds) :
    Con Try.prog 3 [i64V size, .slice ax xs.length cx, .slice ad0 ds.length cd] L (Is (.bool true) L) := by
  have hfw := fun L h h' => Try.dmaFew ax ad0 cx cd xs ds L hx hcx hcd hm hm2 h h'
  by_cases hP : FewP xs ds ∧ size ≤ 600
  · have h8 := xs8_len xs
    have h20 := ds20_len ds
    have hd20 : ∀ d ∈ ds20 ds, bdI d := fun d h => hd d (List.mem_of_mem_take h)
    have hr8 : Rd rgE L ax (xs8 xs) := hr.take _
    have hr20 : Rd bdE L ad0 (ds20 ds) := hr2.take _
    have htx := hP.1.texts
    have hrg := hP.1.rows
    simp only [hP.1, iff_true] at hfw
    simp only [xs8, ds20] at *
    generalize List.take (min (xs.length : Int) 8).toNat xs = ys at *
    generalize List.take (min (ds.length : Int) 20).toNat ds = es at *
    have hM0 : (zeros (min (max size 0) 16384).toNat).length ≤ 600 := by rw [List.length_replicate]; omega
    have hnw := fun L => Try.memNew size L hz
    have hrn := fun L => Try.refNew size L hz
    have hrgn := fun L h => Try.regNew ax cx ys L h8 hrg h
    generalize zeros (min (max size 0) 16384).toNat = M0 at *
    have hiM0 := ints_len M0
    refine con_of Try.tysOk Try.func3 rfl rfl ?_
    conv => whnf
    repeat' (first
      | (first | ((with_reducible refine Br.ff ?_); conv => whnf) | ((with_reducible refine Br.nt ?_); conv => whnf) | ((with_reducible refine Br.df ?_ ?_); (focus (first | assumption | omega)); conv => whnf))
      | ((with_reducible refine Nd.mk ?_ ?_); (focus (first | omega | rfl | assumption | (simp; done))); conv => whnf)
      | ((with_reducible refine Nc.go' (fun _ => ?_)); conv => whnf)
      | (first | ((with_reducible refine Cl.exs (hnw _) (fun bm _ => ?_)); conv => whnf) | ((with_reducible refine Cl.exs (Try.dmaNew _ _ _) (fun be _ => ?_)); conv => whnf) | ((with_reducible refine Cl.new (hrn _) (fun _ _ _ _ => ?_)); conv => whnf))
      | ((refine Cl.exs (hfw _ (by ((repeat (assumption)); done)) (by ((repeat (assumption)); done))) ?_; rintro b rfl); conv => whnf)
      | ((refine Cl.exs (hrgn _ (by ((repeat (first | assumption | apply Rd.cons)); done))) ?_; rintro ⟨bt, m⟩ -); conv => whnf))
    rename_i ab0 cb0 hcb0 had0 b14 b15
    conv => whnf
    refine Lp.by4 Try.tysOk [12, 13, 16] (fun (k : Nat) (n : Nat) (Q : List UInt8 × List Rec × (Nat → Int) × (Nat → Int)) (x : (Option Addr × Nat) × HP × Option Addr × Nat) => [.slice x.2.2.1 (ints Q.1).length x.2.2.2, .int .i64 n, .int .i64 k]) (fun k n Q x => ptc b15 37 (nine Q.2.2.2) :: ptc b14 37 (nine Q.2.2.1) :: ptc be 79 (engC bm bt x.1.1 Q.2.1.length x.1.2 Q.2.2.1 Q.2.2.2) :: ptc bt 74 [.map (some m)] :: mapH m (.int .i64) (ys.map kvR) :: own recE 45 x.1.1 x.1.2 Q.2.1 :: Try.memH bm Q.1 :: x.2.1 :: L) (fun k n Q x => k ≤ es.length ∧ n = Q.2.1.length ∧ n ≤ k ∧ Q.1.length ≤ 600 ∧ (∀ i, 0 ≤ Q.2.2.1 i ∧ Q.2.2.1 i ≤ 100 * k) ∧ (∀ i, 0 ≤ Q.2.2.2 i ∧ Q.2.2.2 i ≤ 100 * k) ∧ Q.2.1.length ≤ x.1.2 ∧ Ad x.1.1 Q.2.1.length ∧ Rd intE [x.2.1] x.2.2.1 (ints Q.1) ∧ (ints Q.1).length ≤ x.2.2.2) (fun k n Q x => es.length - k) (0) (0) (((M0, [], (fun _ => 0), (fun _ => 0)) : List UInt8 × List Rec × (Nat → Int) × (Nat → Int))) ((((none, 0), own intE 3 ab0 cb0 (ints M0), ab0, cb0) : (Option Addr × Nat) × HP × Option Addr × Nat)) (by kernel_rfl) (by (refine FEnt.ent ?_; (repeat (first | exact FEnt.rfl | (refine FEnt.at 0 rfl ?_; (try simp only [List.eraseIdx_cons_zero, List.eraseIdx_cons_succ, List.eraseIdx_zero, List.tail_cons])) | (refine FEnt.at 1 rfl ?_; (try simp only [List.eraseIdx_cons_zero, List.eraseIdx_cons_succ, List.eraseIdx_zero, List.tail_cons])) | refine FEnt.nil ?_)); done)) (⟨by omega, rfl, Nat.le_refl _, hM0, fun i => ⟨by show (0 : Int) ≤ 0; decide, by show (0 : Int) ≤ _; omega⟩, fun i => ⟨by show (0 : Int) ≤ 0; decide, by show (0 : Int) ≤ _; omega⟩, Nat.le_refl _, fun h => (h rfl).elim, Rd.own 0 rfl had0, hcb0⟩) ?_
    rintro k n ⟨M, rs, nr, nw⟩ ⟨⟨a, c⟩, A, ab, cb⟩ ⟨h1, h2, h3, h4, h5, h6, h7, h8', h9, h10⟩
    conv => whnf
    repeat (intro _; conv => whnf)
    dsimp only at h1 h2 h3 h4 h5 h6 h7 h8' h9 h10
    have hiM := ints_len M
    by_cases hk : k < es.length
    · have hdk := hd20 _ (getD_mem (d := bdE.d) hk)
      have htk := htx k hk
      have hnrb : ∀ i, 0 ≤ nr i ∧ nr i ≤ 1000000000 := fun i => by have := h5 i; omega
      have hnwb : ∀ i, 0 ≤ nw i ∧ nw i ≤ 1000000000 := fun i => by have := h6 i; omega
      have hsz6 := fun t o p n w s L => Try.refSize6 t o p n w s L
      by_cases hw : (es.getD k bdE.d).2.2.2.2.1 = true
      · have hdo := fun L h => Try.dmaDoW be bm bt m c a rs nr nw ys ax cx (es.getD k bdE.d).1 (es.getD k bdE.d).2.1 (es.getD k bdE.d).2.2.1 (es.getD k bdE.d).2.2.2.1 (es.getD k bdE.d).2.2.2.2.1 (es.getD k bdE.d).2.2.2.2.2 M M A ab cb L hw (by omega) h8' h7 h8 hrg hdk.2.2.1 hdk.2.2.2 (by omega) (by omega) rfl hnwb h h10 h9
        have hzz : szF (es.getD k bdE.d).2.2.2.1 (es.getD k bdE.d).2.2.2.2.1 (es.getD k bdE.d).2.2.2.2.2 = (es.getD k bdE.d).2.2.2.2.2.size := by rw [hw]; rfl
        by_cases h0 : (askF ys M.length (es.getD k bdE.d).2.1 (es.getD k bdE.d).2.2.1 (es.getD k bdE.d).2.2.2.2.2.size).2 = 0
        · obtain ⟨g1, g2, g3, g4, g5, g6⟩ := askF_ok hrg h0
          have hll := lay_len' (M := M) (ys := (es.getD k bdE.d).2.2.2.2.2.data.toList) (k := (askF ys M.length (es.getD k bdE.d).2.1 (es.getD k bdE.d).2.2.1 (es.getD k bdE.d).2.2.2.2.2.size).1) (by rw [size_list]; exact g3)
          have hub := upd_bd (n := (es.getD k bdE.d).2.1.toNat) (v := nw (es.getD k bdE.d).2.1.toNat + (es.getD k bdE.d).2.2.2.2.2.size) h6 (by have := h6 (es.getD k bdE.d).2.1.toNat; omega)
          have hnb := bd_next h5
          have hmv := fun a n c L => Try.dmaMoved be bm bt n c a (es.getD k bdE.d).2.1 nr (upd nw (es.getD k bdE.d).2.1.toNat (nw (es.getD k bdE.d).2.1.toNat + (es.getD k bdE.d).2.2.2.2.2.size)) L ⟨by omega, by omega⟩
          have hno := hnwb (es.getD k bdE.d).2.1.toNat
          simp only [Try.engP, List.cons_append, List.nil_append] at hdo
          simp only [if_pos h0] at hdo
          rw [h0] at hdo
          have er : recF rs (es.getD k bdE.d).1 (es.getD k bdE.d).2.1 (es.getD k bdE.d).2.2.1 (es.getD k bdE.d).2.2.2.2.2.size true 0 = rs := rfl
          rw [er] at hdo
          generalize lay M (askF ys M.length (es.getD k bdE.d).2.1 (es.getD k bdE.d).2.2.1 (es.getD k bdE.d).2.2.2.2.2.size).1.toNat (es.getD k bdE.d).2.2.2.2.2.data.toList = M2 at *
          generalize hupd : upd nw (es.getD k bdE.d).2.1.toNat (nw (es.getD k bdE.d).2.1.toNat + (es.getD k bdE.d).2.2.2.2.2.size) = r2 at *
          generalize ys.map kvR = kvs at *
          have hrc := fun a c L had => Try.dmaRecords be bm bt c a rs nr r2 L (by omega) had
          conv => whnf
          repeat' (first
            | (first | ((with_reducible refine Br.ff ?_); conv => whnf) | ((with_reducible refine Br.nt ?_); conv => whnf) | ((with_reducible refine Br.dt ?_ ?_); (focus (first | assumption | omega)); conv => whnf) | ((with_reducible refine Br.ndf ?_ ?_); (focus (first | assumption | omega)); conv => whnf) | ((with_reducible refine Br.yes ?_ ?_); (focus assumption); conv => whnf))
            | ((with_reducible refine Ar.i64 ?_ ?_); (focus omega); conv => whnf)
            | ((with_reducible refine Nd.mk ?_ ?_); (focus (first | omega | rfl | assumption | (simp; done))); conv => whnf)
            | ((with_reducible refine Nc.go' (fun _ => ?_)); conv => whnf)
            | ((with_reducible refine Ix.arr ?_ ?_); (focus (omega)); conv => whnf)
            | ((with_reducible refine Ix.ad ?_ ?_ ?_); (focus (exact Rd.ad (by assumption))); (focus (omega)); conv => whnf)
            | (first | (refine Ld.n9 8 rfl ?_ ?_; (focus (omega)); conv => whnf) | (refine Ld.n9 9 rfl ?_ ?_; (focus (omega)); conv => whnf) | (refine Ld.at 7 rfl rfl ?_; conv => whnf))
            | (first | ((with_reducible apply LdN.rdk); (focus ((repeat (first | assumption | apply Rd.cons)); done)); (focus rfl); (focus rfl); (focus (omega)); conv => whnf) | (refine LdN.at 0 rfl (by first | exact Nat.le_of_ble_eq_true rfl | (simp; done)) ?_; conv => whnf))
            | (first | (refine St.n9 8 rfl ?_ ?_; (focus (omega)); conv => whnf) | (refine St.at 0 rfl (by first | exact Nat.le_of_ble_eq_true rfl | (simp; done)) rfl ?_; conv => whnf))
            | ((with_reducible refine Dr.by (id := 24) Try.tysOk rfl [(0, 0), (4, 0), (1, 1), (2, 0), (3, 1), (5, 1), (6, 0), (7, 0), (8, 0), (9, 3)] ?_ ?_); (focus kernel_rfl); conv => whnf)
            | (first | (apply (Cl.pre [ptc be _ _, ptc bt _ _, mapH m _ _, own recE _ a c rs, Try.memH bm M, A]); (focus ((repeat (first | exact FEnt.rfl | (refine FEnt.at 0 rfl ?_; (try simp only [List.eraseIdx_cons_zero, List.eraseIdx_cons_succ, List.eraseIdx_zero, List.tail_cons])) | (refine FEnt.at 1 rfl ?_; (try simp only [List.eraseIdx_cons_zero, List.eraseIdx_cons_succ, List.eraseIdx_zero, List.tail_cons])) | (refine FEnt.at 2 rfl ?_; (try simp only [List.eraseIdx_cons_zero, List.eraseIdx_cons_succ, List.eraseIdx_zero, List.tail_cons])) | (refine FEnt.at 3 rfl ?_; (try simp only [List.eraseIdx_cons_zero, List.eraseIdx_cons_succ, List.eraseIdx_zero, List.tail_cons])) | refine FEnt.drop ?_)); done)); refine Cl.exs (hdo _ (by ((repeat (first | assumption | apply Rd.cons)); done))) ?_; rintro ⟨⟨a2, c2⟩, A3, a3, c3⟩ ⟨⟨hc2, had2⟩, hb⟩; conv => whnf) | (apply (Cl.pre [ptc be _ _, own recE _ a2 c2 rs]); (focus (repeat (first | exact FEnt.rfl | (refine FEnt.at 0 rfl ?_; (try simp only [List.eraseIdx_cons_zero, List.eraseIdx_cons_succ, List.eraseIdx_zero, List.tail_cons])) | (refine FEnt.at 1 rfl ?_; (try simp only [List.eraseIdx_cons_zero, List.eraseIdx_cons_succ, List.eraseIdx_zero, List.tail_cons])) | (refine FEnt.at 2 rfl ?_; (try simp only [List.eraseIdx_cons_zero, List.eraseIdx_cons_succ, List.eraseIdx_zero, List.tail_cons])))); done); refine Cl.new (hrc _ _ _ had2) (fun _ _ _ _ => ?_); conv => whnf) | ((refine Cl.isAt 1 rfl (hmv _ _ _ _) ?_); conv => whnf))
            | ((rw [hupd]); conv => whnf))
          all_goals exact ⟨k + 1, n, (M2, rs, nr, r2), ((a2, c2), A3, a3, c3), by kernel_rfl, by (try dsimp only); (refine FEnt.ent ?_; (repeat (first | exact FEnt.rfl | (refine FEnt.at 1 rfl ?_; (try simp only [List.eraseIdx_cons_zero, List.eraseIdx_cons_succ, List.eraseIdx_zero, List.tail_cons])) | (refine FEnt.at 2 rfl ?_; (try simp only [List.eraseIdx_cons_zero, List.eraseIdx_cons_succ, List.eraseIdx_zero, List.tail_cons])) | (refine FEnt.at 8 rfl ?_; (try simp only [List.eraseIdx_cons_zero, List.eraseIdx_cons_succ, List.eraseIdx_zero, List.tail_cons])) | refine FEnt.drop ?_)); done), ⟨by omega, h2, by omega, Nat.le_trans (Nat.le_of_eq hll) h4, hnb, hub, hc2, had2, hb.read, hb.cap⟩, by omega⟩
        · have er : recF rs (es.getD k bdE.d).1 (es.getD k bdE.d).2.1 (es.getD k bdE.d).2.2.1 (es.getD k bdE.d).2.2.2.2.2.size true (askF ys M.length (es.getD k bdE.d).2.1 (es.getD k bdE.d).2.2.1 (es.getD k bdE.d).2.2.2.2.2.size).2 = rs ++ [((es.getD k bdE.d).1, (es.getD k bdE.d).2.1, (es.getD k bdE.d).2.2.1, ((es.getD k bdE.d).2.2.2.2.2.size : Int), true, (askF ys M.length (es.getD k bdE.d).2.1 (es.getD k bdE.d).2.2.1 (es.getD k bdE.d).2.2.2.2.2.size).2)] := if_neg h0
          have hge := snoc_at (rs := rs) (r := ((es.getD k bdE.d).1, (es.getD k bdE.d).2.1, (es.getD k bdE.d).2.2.1, ((es.getD k bdE.d).2.2.2.2.2.size : Int), true, (askF ys M.length (es.getD k bdE.d).2.1 (es.getD k bdE.d).2.2.1 (es.getD k bdE.d).2.2.2.2.2.size).2)) (n := n) h2.symm
          have hrl : (rs ++ [((es.getD k bdE.d).1, (es.getD k bdE.d).2.1, (es.getD k bdE.d).2.2.1, ((es.getD k bdE.d).2.2.2.2.2.size : Int), true, (askF ys M.length (es.getD k bdE.d).2.1 (es.getD k bdE.d).2.2.1 (es.getD k bdE.d).2.2.2.2.2.size).2)]).length = n + 1 := by rw [List.length_append, h2]; rfl
          have hsz := fun L => Con.eq (by rw [hzz]) (hsz6 (es.getD k bdE.d).1 (es.getD k bdE.d).2.1 (es.getD k bdE.d).2.2.1 (es.getD k bdE.d).2.2.2.1 (es.getD k bdE.d).2.2.2.2.1 (es.getD k bdE.d).2.2.2.2.2 L) (v' := i64V ((es.getD k bdE.d).2.2.2.2.2.size : Int))
          have hn5 := bd_next h5
          have hn6 := bd_next h6
          simp only [Try.engP, List.cons_append, List.nil_append] at hdo
          simp only [if_neg h0] at hdo
          rw [er] at hdo
          generalize hrs2 : rs ++ [((es.getD k bdE.d).1, (es.getD k bdE.d).2.1, (es.getD k bdE.d).2.2.1, ((es.getD k bdE.d).2.2.2.2.2.size : Int), true, (askF ys M.length (es.getD k bdE.d).2.1 (es.getD k bdE.d).2.2.1 (es.getD k bdE.d).2.2.2.2.2.size).2)] = rs2 at *
          generalize (askF ys M.length (es.getD k bdE.d).2.1 (es.getD k bdE.d).2.2.1 (es.getD k bdE.d).2.2.2.2.2.size).2 = e at *
          have hE : (rs2.getD (((n : Int) + 1 - 1).toNat) recE.d).1 = (es.getD k bdE.d).1 ∧ (rs2.getD (((n : Int) + 1 - 1).toNat) recE.d).2.1 = (es.getD k bdE.d).2.1 ∧ (rs2.getD (((n : Int) + 1 - 1).toNat) recE.d).2.2.1 = (es.getD k bdE.d).2.2.1 ∧ (rs2.getD (((n : Int) + 1 - 1).toNat) recE.d).2.2.2.1 = ((es.getD k bdE.d).2.2.2.2.2.size : Int) ∧ (rs2.getD (((n : Int) + 1 - 1).toNat) recE.d).2.2.2.2.1 = (es.getD k bdE.d).2.2.2.2.1 ∧ (rs2.getD (((n : Int) + 1 - 1).toNat) recE.d).2.2.2.2.2 = e := by rw [hge]; exact ⟨rfl, rfl, rfl, rfl, hw.symm, rfl⟩
          generalize ys.map kvR = kvs at *
          have hrc := fun a c L had => Try.dmaRecords be bm bt c a rs2 nr nw L (by omega) had
          conv => whnf
          repeat' (first
            | (first | ((with_reducible refine Br.ff ?_); conv => whnf) | ((with_reducible refine Br.nt ?_); conv => whnf) | ((with_reducible refine Br.dt ?_ ?_); (focus (first | assumption | omega)); conv => whnf) | ((with_reducible refine Br.ndt ?_ ?_); (focus (first | assumption | omega)); conv => whnf) | ((with_reducible refine Br.ndf ?_ ?_); (focus (first | assumption | omega)); conv => whnf))
            | ((with_reducible refine Ar.i64 ?_ ?_); (focus omega); conv => whnf)
            | ((with_reducible refine Nd.mk ?_ ?_); (focus (first | omega | rfl | assumption | (simp; done))); conv => whnf)
            | ((with_reducible refine Nc.go' (fun _ => ?_)); conv => whnf)
            | ((with_reducible refine Ix.ad ?_ ?_ ?_); (focus (first | assumption | exact Rd.ad (by assumption))); (focus (omega)); conv => whnf)
            | (refine Ld.at 7 rfl rfl ?_; conv => whnf)
            | (first | ((first | (with_reducible apply LdN.rdk) | apply LdN.rd); (focus ((repeat (first | assumption | ((refine Rd.own 0 rfl ?_); (assumption)) | apply Rd.cons)); done)); (focus rfl); (focus rfl); (focus (omega)); conv => whnf) | (refine LdN.at 0 rfl (by first | exact Nat.le_of_ble_eq_true rfl | (simp; done)) ?_; conv => whnf) | (refine LdN.at 7 rfl (by first | exact Nat.le_of_ble_eq_true rfl | (simp; done)) ?_; conv => whnf))
            | (refine St.at 0 rfl (by first | exact Nat.le_of_ble_eq_true rfl | (simp; done)) rfl ?_; conv => whnf)
            | ((with_reducible refine Dr.by (id := 21) Try.tysOk rfl [(0, 0), (1, 0), (2, 0), (3, 0), (4, 0), (5, 0), (6, 0), (7, 0), (8, 0), (10, 0), (12, 0), (14, 0), (18, 0), (20, 0), (9, 1), (11, 1), (13, 1), (15, 1), (16, 1), (17, 1), (19, 1), (21, 0), (22, 0), (23, 0)] ?_ ?_); (focus kernel_rfl); conv => whnf)
            | ((with_reducible refine CD.is (fun M => hsz _) ?_); conv => whnf)
            | (first | (apply (Cl.pre [ptc be _ _, ptc bt _ _, mapH m _ _, own recE _ a c rs, Try.memH bm M, A]); (focus ((repeat (first | exact FEnt.rfl | (refine FEnt.at 0 rfl ?_; (try simp only [List.eraseIdx_cons_zero, List.eraseIdx_cons_succ, List.eraseIdx_zero, List.tail_cons])) | (refine FEnt.at 3 rfl ?_; (try simp only [List.eraseIdx_cons_zero, List.eraseIdx_cons_succ, List.eraseIdx_zero, List.tail_cons])) | refine FEnt.drop ?_)); done)); refine Cl.exs (hdo _ (by ((repeat (first | assumption | apply Rd.cons)); done))) ?_; rintro ⟨⟨a2, c2⟩, A3, a3, c3⟩ ⟨⟨hc2, had2⟩, hb⟩; conv => whnf) | (apply (Cl.pre [ptc be _ _, own recE _ a2 c2 rs2]); (focus (repeat (first | exact FEnt.rfl | (refine FEnt.at 0 rfl ?_; (try simp only [List.eraseIdx_cons_zero, List.eraseIdx_cons_succ, List.eraseIdx_zero, List.tail_cons])) | (refine FEnt.at 2 rfl ?_; (try simp only [List.eraseIdx_cons_zero, List.eraseIdx_cons_succ, List.eraseIdx_zero, List.tail_cons])))); done); refine Cl.new (hrc _ _ _ had2) (fun _ _ _ _ => ?_); conv => whnf)))
          all_goals exact ⟨k + 1, n + 1, (M, rs2, nr, nw), ((a2, c2), A3, a3, c3), by kernel_rfl, by (try dsimp only); (refine FEnt.ent ?_; (repeat (first | exact FEnt.rfl | (refine FEnt.at 1 rfl ?_; (try simp only [List.eraseIdx_cons_zero, List.eraseIdx_cons_succ, List.eraseIdx_zero, List.tail_cons])) | (refine FEnt.at 2 rfl ?_; (try simp only [List.eraseIdx_cons_zero, List.eraseIdx_cons_succ, List.eraseIdx_zero, List.tail_cons])) | (refine FEnt.at 8 rfl ?_; (try simp only [List.eraseIdx_cons_zero, List.eraseIdx_cons_succ, List.eraseIdx_zero, List.tail_cons])) | refine FEnt.drop ?_)); done), ⟨by omega, hrl.symm, by omega, h4, hn5, hn6, hc2, had2, hb.read, hb.cap⟩, by omega⟩
      · have hw : (es.getD k bdE.d).2.2.2.2.1 = false := by simpa using hw
        have hdo := fun L h => Try.dmaDoR be bm bt m c a rs nr nw ys ax cx (es.getD k bdE.d).1 (es.getD k bdE.d).2.1 (es.getD k bdE.d).2.2.1 (es.getD k bdE.d).2.2.2.1 (es.getD k bdE.d).2.2.2.2.1 (es.getD k bdE.d).2.2.2.2.2 M A ab cb L hw (by omega) h8' h7 h8 hrg hdk.2.2.1 hdk.2.2.2 (by omega) (by omega) hnrb h h10 h9
        have hzz : szF (es.getD k bdE.d).2.2.2.1 (es.getD k bdE.d).2.2.2.2.1 (es.getD k bdE.d).2.2.2.2.2 = (es.getD k bdE.d).2.2.2.1 := by rw [hw]; rfl
        by_cases h0 : (askF ys M.length (es.getD k bdE.d).2.1 (es.getD k bdE.d).2.2.1 (es.getD k bdE.d).2.2.2.1).2 = 0
        · obtain ⟨g1, g2, g3, g4, g5, g6⟩ := askF_ok hrg h0
          have hub := upd_bd (n := (es.getD k bdE.d).2.1.toNat) (v := nr (es.getD k bdE.d).2.1.toNat + (es.getD k bdE.d).2.2.2.1) h5 (by have := h5 (es.getD k bdE.d).2.1.toNat; omega)
          have hnb := bd_next h6
          have hmv := fun a n c L => Try.dmaMoved be bm bt n c a (es.getD k bdE.d).2.1 (upd nr (es.getD k bdE.d).2.1.toNat (nr (es.getD k bdE.d).2.1.toNat + (es.getD k bdE.d).2.2.2.1)) nw L ⟨by omega, by omega⟩
          have hno := hnrb (es.getD k bdE.d).2.1.toNat
          simp only [Try.engP, List.cons_append, List.nil_append] at hdo
          simp only [if_pos h0] at hdo
          rw [h0] at hdo
          have er : recF rs (es.getD k bdE.d).1 (es.getD k bdE.d).2.1 (es.getD k bdE.d).2.2.1 (es.getD k bdE.d).2.2.2.1 false 0 = rs := rfl
          rw [er] at hdo
          generalize hupd : upd nr (es.getD k bdE.d).2.1.toNat (nr (es.getD k bdE.d).2.1.toNat + (es.getD k bdE.d).2.2.2.1) = r2 at *
          generalize ys.map kvR = kvs at *
          have hrc := fun a c L had => Try.dmaRecords be bm bt c a rs r2 nw L (by omega) had
          conv => whnf
          repeat' (first
            | (first | ((with_reducible refine Br.ff ?_); conv => whnf) | ((with_reducible refine Br.nt ?_); conv => whnf) | ((with_reducible refine Br.dt ?_ ?_); (focus (first | assumption | omega)); conv => whnf) | ((with_reducible refine Br.ndf ?_ ?_); (focus (first | assumption | omega)); conv => whnf) | ((with_reducible refine Br.no ?_ ?_); (focus assumption); conv => whnf))
            | ((with_reducible refine Ar.i64 ?_ ?_); (focus omega); conv => whnf)
            | ((with_reducible refine Nd.mk ?_ ?_); (focus (first | omega | rfl | assumption | (simp; done))); conv => whnf)
            | ((with_reducible refine Nc.go' (fun _ => ?_)); conv => whnf)
            | ((with_reducible refine Ix.arr ?_ ?_); (focus (omega)); conv => whnf)
            | ((with_reducible refine Ix.ad ?_ ?_ ?_); (focus (exact Rd.ad (by assumption))); (focus (omega)); conv => whnf)
            | (first | (refine Ld.n9 8 rfl ?_ ?_; (focus (omega)); conv => whnf) | (refine Ld.n9 9 rfl ?_ ?_; (focus (omega)); conv => whnf) | (refine Ld.at 7 rfl rfl ?_; conv => whnf))
            | (first | ((with_reducible apply LdN.rdk); (focus ((repeat (first | assumption | apply Rd.cons)); done)); (focus rfl); (focus rfl); (focus (omega)); conv => whnf) | (refine LdN.at 0 rfl (by first | exact Nat.le_of_ble_eq_true rfl | (simp; done)) ?_; conv => whnf))
            | (first | (refine St.n9 9 rfl ?_ ?_; (focus (omega)); conv => whnf) | (refine St.at 0 rfl (by first | exact Nat.le_of_ble_eq_true rfl | (simp; done)) rfl ?_; conv => whnf))
            | ((with_reducible refine Dr.by (id := 25) Try.tysOk rfl [(0, 0), (4, 0), (1, 1), (2, 0), (3, 1), (5, 1), (6, 0), (7, 0), (8, 3)] ?_ ?_); (focus kernel_rfl); conv => whnf)
            | (first | (apply (Cl.pre [ptc be _ _, ptc bt _ _, mapH m _ _, own recE _ a c rs, Try.memH bm M, A]); (focus ((repeat (first | exact FEnt.rfl | (refine FEnt.at 0 rfl ?_; (try simp only [List.eraseIdx_cons_zero, List.eraseIdx_cons_succ, List.eraseIdx_zero, List.tail_cons])) | (refine FEnt.at 1 rfl ?_; (try simp only [List.eraseIdx_cons_zero, List.eraseIdx_cons_succ, List.eraseIdx_zero, List.tail_cons])) | (refine FEnt.at 2 rfl ?_; (try simp only [List.eraseIdx_cons_zero, List.eraseIdx_cons_succ, List.eraseIdx_zero, List.tail_cons])) | (refine FEnt.at 3 rfl ?_; (try simp only [List.eraseIdx_cons_zero, List.eraseIdx_cons_succ, List.eraseIdx_zero, List.tail_cons])) | refine FEnt.drop ?_)); done)); refine Cl.exs (hdo _ (by ((repeat (first | assumption | apply Rd.cons)); done))) ?_; rintro ⟨a2, c2⟩ ⟨hc2, had2⟩; conv => whnf) | (apply (Cl.pre [ptc be _ _, own recE _ a2 c2 rs]); (focus (repeat (first | exact FEnt.rfl | (refine FEnt.at 0 rfl ?_; (try simp only [List.eraseIdx_cons_zero, List.eraseIdx_cons_succ, List.eraseIdx_zero, List.tail_cons])) | (refine FEnt.at 1 rfl ?_; (try simp only [List.eraseIdx_cons_zero, List.eraseIdx_cons_succ, List.eraseIdx_zero, List.tail_cons])) | (refine FEnt.at 2 rfl ?_; (try simp only [List.eraseIdx_cons_zero, List.eraseIdx_cons_succ, List.eraseIdx_zero, List.tail_cons])))); done); refine Cl.new (hrc _ _ _ had2) (fun _ _ _ _ => ?_); conv => whnf) | ((refine Cl.isAt 1 rfl (hmv _ _ _ _) ?_); conv => whnf))
            | ((rw [hupd]); conv => whnf))
          all_goals exact ⟨k + 1, n, (M, rs, r2, nw), ((a2, c2), A, ab, cb), by kernel_rfl, by (try dsimp only); (refine FEnt.ent ?_; (repeat (first | exact FEnt.rfl | (refine FEnt.at 1 rfl ?_; (try simp only [List.eraseIdx_cons_zero, List.eraseIdx_cons_succ, List.eraseIdx_zero, List.tail_cons])) | (refine FEnt.at 2 rfl ?_; (try simp only [List.eraseIdx_cons_zero, List.eraseIdx_cons_succ, List.eraseIdx_zero, List.tail_cons])) | (refine FEnt.at 8 rfl ?_; (try simp only [List.eraseIdx_cons_zero, List.eraseIdx_cons_succ, List.eraseIdx_zero, List.tail_cons])) | refine FEnt.drop ?_)); done), ⟨by omega, h2, by omega, h4, hub, hnb, hc2, had2, h9, h10⟩, by omega⟩
        · have er : recF rs (es.getD k bdE.d).1 (es.getD k bdE.d).2.1 (es.getD k bdE.d).2.2.1 (es.getD k bdE.d).2.2.2.1 false (askF ys M.length (es.getD k bdE.d).2.1 (es.getD k bdE.d).2.2.1 (es.getD k bdE.d).2.2.2.1).2 = rs ++ [((es.getD k bdE.d).1, (es.getD k bdE.d).2.1, (es.getD k bdE.d).2.2.1, ((es.getD k bdE.d).2.2.2.1 : Int), false, (askF ys M.length (es.getD k bdE.d).2.1 (es.getD k bdE.d).2.2.1 (es.getD k bdE.d).2.2.2.1).2)] := if_neg h0
          have hge := snoc_at (rs := rs) (r := ((es.getD k bdE.d).1, (es.getD k bdE.d).2.1, (es.getD k bdE.d).2.2.1, ((es.getD k bdE.d).2.2.2.1 : Int), false, (askF ys M.length (es.getD k bdE.d).2.1 (es.getD k bdE.d).2.2.1 (es.getD k bdE.d).2.2.2.1).2)) (n := n) h2.symm
          have hrl : (rs ++ [((es.getD k bdE.d).1, (es.getD k bdE.d).2.1, (es.getD k bdE.d).2.2.1, ((es.getD k bdE.d).2.2.2.1 : Int), false, (askF ys M.length (es.getD k bdE.d).2.1 (es.getD k bdE.d).2.2.1 (es.getD k bdE.d).2.2.2.1).2)]).length = n + 1 := by rw [List.length_append, h2]; rfl
          have hsz := fun L => Con.eq (by rw [hzz]) (hsz6 (es.getD k bdE.d).1 (es.getD k bdE.d).2.1 (es.getD k bdE.d).2.2.1 (es.getD k bdE.d).2.2.2.1 (es.getD k bdE.d).2.2.2.2.1 (es.getD k bdE.d).2.2.2.2.2 L) (v' := i64V ((es.getD k bdE.d).2.2.2.1 : Int))
          have hn5 := bd_next h5
          have hn6 := bd_next h6
          simp only [Try.engP, List.cons_append, List.nil_append] at hdo
          simp only [if_neg h0] at hdo
          rw [er] at hdo
          generalize hrs2 : rs ++ [((es.getD k bdE.d).1, (es.getD k bdE.d).2.1, (es.getD k bdE.d).2.2.1, ((es.getD k bdE.d).2.2.2.1 : Int), false, (askF ys M.length (es.getD k bdE.d).2.1 (es.getD k bdE.d).2.2.1 (es.getD k bdE.d).2.2.2.1).2)] = rs2 at *
          generalize (askF ys M.length (es.getD k bdE.d).2.1 (es.getD k bdE.d).2.2.1 (es.getD k bdE.d).2.2.2.1).2 = e at *
          have hE : (rs2.getD (((n : Int) + 1 - 1).toNat) recE.d).1 = (es.getD k bdE.d).1 ∧ (rs2.getD (((n : Int) + 1 - 1).toNat) recE.d).2.1 = (es.getD k bdE.d).2.1 ∧ (rs2.getD (((n : Int) + 1 - 1).toNat) recE.d).2.2.1 = (es.getD k bdE.d).2.2.1 ∧ (rs2.getD (((n : Int) + 1 - 1).toNat) recE.d).2.2.2.1 = ((es.getD k bdE.d).2.2.2.1 : Int) ∧ (rs2.getD (((n : Int) + 1 - 1).toNat) recE.d).2.2.2.2.1 = (es.getD k bdE.d).2.2.2.2.1 ∧ (rs2.getD (((n : Int) + 1 - 1).toNat) recE.d).2.2.2.2.2 = e := by rw [hge]; exact ⟨rfl, rfl, rfl, rfl, hw.symm, rfl⟩
          generalize ys.map kvR = kvs at *
          have hrc := fun a c L had => Try.dmaRecords be bm bt c a rs2 nr nw L (by omega) had
          conv => whnf
          repeat' (first
            | (first | ((with_reducible refine Br.ff ?_); conv => whnf) | ((with_reducible refine Br.nt ?_); conv => whnf) | ((with_reducible refine Br.dt ?_ ?_); (focus (first | assumption | omega)); conv => whnf) | ((with_reducible refine Br.ndt ?_ ?_); (focus (first | assumption | omega)); conv => whnf) | ((with_reducible refine Br.ndf ?_ ?_); (focus (first | assumption | omega)); conv => whnf))
            | ((with_reducible refine Ar.i64 ?_ ?_); (focus omega); conv => whnf)
            | ((with_reducible refine Nd.mk ?_ ?_); (focus (first | omega | rfl | assumption | (simp; done))); conv => whnf)
            | ((with_reducible refine Nc.go' (fun _ => ?_)); conv => whnf)
            | ((with_reducible refine Ix.ad ?_ ?_ ?_); (focus (first | assumption | exact Rd.ad (by assumption))); (focus (omega)); conv => whnf)
            | (refine Ld.at 7 rfl rfl ?_; conv => whnf)
            | (first | ((first | (with_reducible apply LdN.rdk) | apply LdN.rd); (focus ((repeat (first | assumption | ((refine Rd.own 0 rfl ?_); (assumption)) | apply Rd.cons)); done)); (focus rfl); (focus rfl); (focus (omega)); conv => whnf) | (refine LdN.at 0 rfl (by first | exact Nat.le_of_ble_eq_true rfl | (simp; done)) ?_; conv => whnf) | (refine LdN.at 7 rfl (by first | exact Nat.le_of_ble_eq_true rfl | (simp; done)) ?_; conv => whnf))
            | (refine St.at 0 rfl (by first | exact Nat.le_of_ble_eq_true rfl | (simp; done)) rfl ?_; conv => whnf)
            | ((with_reducible refine Dr.by (id := 21) Try.tysOk rfl [(0, 0), (1, 0), (2, 0), (3, 0), (4, 0), (5, 0), (6, 0), (7, 0), (8, 0), (10, 0), (12, 0), (14, 0), (18, 0), (20, 0), (9, 1), (11, 1), (13, 1), (15, 1), (16, 1), (17, 1), (19, 1), (21, 0), (22, 0), (23, 0)] ?_ ?_); (focus kernel_rfl); conv => whnf)
            | ((with_reducible refine CD.is (fun M => hsz _) ?_); conv => whnf)
            | (first | (apply (Cl.pre [ptc be _ _, ptc bt _ _, mapH m _ _, own recE _ a c rs, Try.memH bm M, A]); (focus ((repeat (first | exact FEnt.rfl | (refine FEnt.at 0 rfl ?_; (try simp only [List.eraseIdx_cons_zero, List.eraseIdx_cons_succ, List.eraseIdx_zero, List.tail_cons])) | (refine FEnt.at 3 rfl ?_; (try simp only [List.eraseIdx_cons_zero, List.eraseIdx_cons_succ, List.eraseIdx_zero, List.tail_cons])) | refine FEnt.drop ?_)); done)); refine Cl.exs (hdo _ (by ((repeat (first | assumption | apply Rd.cons)); done))) ?_; rintro ⟨a2, c2⟩ ⟨hc2, had2⟩; conv => whnf) | (apply (Cl.pre [ptc be _ _, own recE _ a2 c2 rs2]); (focus (repeat (first | exact FEnt.rfl | (refine FEnt.at 0 rfl ?_; (try simp only [List.eraseIdx_cons_zero, List.eraseIdx_cons_succ, List.eraseIdx_zero, List.tail_cons])) | (refine FEnt.at 2 rfl ?_; (try simp only [List.eraseIdx_cons_zero, List.eraseIdx_cons_succ, List.eraseIdx_zero, List.tail_cons])))); done); refine Cl.new (hrc _ _ _ had2) (fun _ _ _ _ => ?_); conv => whnf)))
          all_goals exact ⟨k + 1, n + 1, (M, rs2, nr, nw), ((a2, c2), A, ab, cb), by kernel_rfl, by (try dsimp only); (refine FEnt.ent ?_; (repeat (first | exact FEnt.rfl | (refine FEnt.at 1 rfl ?_; (try simp only [List.eraseIdx_cons_zero, List.eraseIdx_cons_succ, List.eraseIdx_zero, List.tail_cons])) | (refine FEnt.at 2 rfl ?_; (try simp only [List.eraseIdx_cons_zero, List.eraseIdx_cons_succ, List.eraseIdx_zero, List.tail_cons])) | (refine FEnt.at 8 rfl ?_; (try simp only [List.eraseIdx_cons_zero, List.eraseIdx_cons_succ, List.eraseIdx_zero, List.tail_cons])) | refine FEnt.drop ?_)); done), ⟨by omega, hrl.symm, by omega, h4, hn5, hn6, hc2, had2, h9, h10⟩, by omega⟩
    · have htm := fun L => Try.memText bm M 0 M.length 0 _ L (by omega) rfl rfl (by omega)
      have htr := fun L h => Try.refTextB ab cb 0 M.length 0 (ints M).length M L (by omega) rfl (by omega) (by omega) h
      generalize (⟨((M.take (0 + M.length)).drop 0).toArray⟩ : ByteArray) = S at *
      have hS : S = S := rfl
      conv => whnf
      repeat' (first
        | (first | ((with_reducible refine Br.tt ?_); conv => whnf) | ((with_reducible refine Br.df ?_ ?_); (focus (first | assumption | omega)); conv => whnf))
        | ((with_reducible refine Nd.mk ?_ ?_); (focus (first | omega | rfl | assumption | (simp; done))); conv => whnf)
        | (first | ((refine Cl.isAt 6 rfl (Try.memSize _ _ _) ?_); conv => whnf) | ((refine Cl.isAt 6 rfl (htm _) ?_); conv => whnf) | ((with_reducible refine Cl.is (Try.dmaLive _) ?_); conv => whnf) | ((with_reducible refine (?_ : Cl _ 18 _ _ _ _)); (refine Cl.is (htr _ (by ((repeat (first | exact Rd.hd (by assumption) | apply Rd.cons)); done))) ?_); conv => whnf)))
      all_goals (refine Is.ent ?_ ?_; (focus (refine FEnt.ent ?_; (repeat (first | exact FEnt.rfl | refine FEnt.drop ?_)); done)); (exact Is.ttr (by first | assumption | omega)))
  · by_cases hF : FewP xs ds
    · simp only [hF, iff_true] at hfw
      have hs6 : ¬ size ≤ 600 := fun h => hP ⟨hF, h⟩
      refine con_of Try.tysOk Try.func3 rfl rfl ?_
      conv => whnf
      repeat' (first
        | (first | ((with_reducible refine Br.ff ?_); conv => whnf) | ((with_reducible refine Br.nt ?_); conv => whnf) | ((with_reducible refine Br.dt ?_ ?_); (focus (first | assumption | omega)); conv => whnf))
        | ((with_reducible refine Nd.mk ?_ ?_); (focus (first | omega | rfl | assumption | (simp; done))); conv => whnf)
        | ((with_reducible refine Cl.is (Try.dmaLive _) ?_); conv => whnf)
        | ((refine Cl.exs (hfw _ (by ((repeat (assumption)); done)) (by ((repeat (assumption)); done))) ?_; rintro b rfl); conv => whnf))
      all_goals (refine Is.ent ?_ ?_; (focus (exact Ent.rfl)); (exact Is.rfl))
    · simp only [hF, iff_false] at hfw
      refine con_of Try.tysOk Try.func3 rfl rfl ?_
      conv => whnf
      repeat' (first
        | (first | ((with_reducible refine Br.tt ?_); conv => whnf) | ((with_reducible refine Br.nf ?_); conv => whnf))
        | ((with_reducible refine Nd.mk ?_ ?_); (focus (first | omega | rfl | assumption | (simp; done))); conv => whnf)
        | ((with_reducible refine Cl.is (Try.dmaLive _) ?_); conv => whnf)
        | ((refine Cl.exs (hfw _ (by ((repeat (assumption)); done)) (by ((repeat (assumption)); done))) ?_; rintro b hb; obtain rfl : b = false := (by simpa using hb)); conv => whnf))
      all_goals (refine Is.ent ?_ ?_; (focus (exact Ent.rfl)); (exact Is.rfl))
end Go.Proofs
