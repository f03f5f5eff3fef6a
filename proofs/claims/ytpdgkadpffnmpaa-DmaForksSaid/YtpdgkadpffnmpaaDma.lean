/- The engine of bursts: contracts. -/
import Derived.Test.YtpdgkadpffnmpaaRegion
import Derived.Test.YtpdgkadpffnmpaaMemLaw
import Derived.Test.YtpdgkadpffnmpaaMemDiff
set_option linter.all false
namespace Go.Proofs
open Go.Eng
set_option linter.unusedVariables false
set_option maxRecDepth 100000
set_option maxHeartbeats 1000000
/-- a burst that was refused: tick, owner, address, size, was it written, why -/
abbrev Rec := Int × Int × Int × Int × Bool × Int
def recE : Enc Rec := ⟨6, fun r => [i64V r.1, i64V r.2.1, i64V r.2.2.1, i64V r.2.2.2.1, .bool r.2.2.2.2.1, i64V r.2.2.2.2.2], (0, 0, 0, 0, false, 0), fun _ => rfl, by omega, fun _ => rfl⟩
/-- nine numbers -/
abbrev nine (r : Nat → Int) : List Value := [i64V (r 0), i64V (r 1), i64V (r 2), i64V (r 3), i64V (r 4), i64V (r 5), i64V (r 6), i64V (r 7), i64V (r 8)]
/-- an engine's cells -/
abbrev engC (bm bt : Nat) (a : Option Addr) (n c : Nat) (nr nw : Nat → Int) : List Value := [pV bm, pV bt, .slice a n c, i64V (nr 0), i64V (nr 1), i64V (nr 2), i64V (nr 3), i64V (nr 4), i64V (nr 5), i64V (nr 6), i64V (nr 7), i64V (nr 8), i64V (nw 0), i64V (nw 1), i64V (nw 2), i64V (nw 3), i64V (nw 4), i64V (nw 5), i64V (nw 6), i64V (nw 7), i64V (nw 8)]
section
variable {P : Program} {L : List HP}
theorem nine_at (r : Nat → Int) {n : Nat} (h : n < 9) : (nine r)[0 + n]? = some (i64V (r n)) := by
  match n, h with
  | 0, _ => rfl | 1, _ => rfl | 2, _ => rfl | 3, _ => rfl | 4, _ => rfl | 5, _ => rfl | 6, _ => rfl | 7, _ => rfl | 8, _ => rfl
theorem nine_set (r : Nat → Int) (v : Int) {n : Nat} (h : n < 9) : (nine r).set (0 + n) (i64V v) = nine (upd r n v) := by
  match n, h with
  | 0, _ => rfl | 1, _ => rfl | 2, _ => rfl | 3, _ => rfl | 4, _ => rfl | 5, _ => rfl | 6, _ => rfl | 7, _ => rfl | 8, _ => rfl
theorem engR_at (bm bt : Nat) (a : Option Addr) (m c : Nat) (nr nw : Nat → Int) {n : Nat} (h : n < 9) : (engC bm bt a m c nr nw)[3 + n]? = some (i64V (nr n)) := by
  match n, h with
  | 0, _ => rfl | 1, _ => rfl | 2, _ => rfl | 3, _ => rfl | 4, _ => rfl | 5, _ => rfl | 6, _ => rfl | 7, _ => rfl | 8, _ => rfl
theorem engR_set (bm bt : Nat) (a : Option Addr) (m c : Nat) (nr nw : Nat → Int) (v : Int) {n : Nat} (h : n < 9) : (engC bm bt a m c nr nw).set (3 + n) (i64V v) = engC bm bt a m c (upd nr n v) nw := by
  match n, h with
  | 0, _ => rfl | 1, _ => rfl | 2, _ => rfl | 3, _ => rfl | 4, _ => rfl | 5, _ => rfl | 6, _ => rfl | 7, _ => rfl | 8, _ => rfl
theorem engW_at (bm bt : Nat) (a : Option Addr) (m c : Nat) (nr nw : Nat → Int) {n : Nat} (h : n < 9) : (engC bm bt a m c nr nw)[12 + n]? = some (i64V (nw n)) := by
  match n, h with
  | 0, _ => rfl | 1, _ => rfl | 2, _ => rfl | 3, _ => rfl | 4, _ => rfl | 5, _ => rfl | 6, _ => rfl | 7, _ => rfl | 8, _ => rfl
theorem engW_set (bm bt : Nat) (a : Option Addr) (m c : Nat) (nr nw : Nat → Int) (v : Int) {n : Nat} (h : n < 9) : (engC bm bt a m c nr nw).set (12 + n) (i64V v) = engC bm bt a m c nr (upd nw n v) := by
  match n, h with
  | 0, _ => rfl | 1, _ => rfl | 2, _ => rfl | 3, _ => rfl | 4, _ => rfl | 5, _ => rfl | 6, _ => rfl | 7, _ => rfl | 8, _ => rfl
/-- one of some cells in a row, at a place that is not known -/
theorem Ld.arr {b o N : Nat} {t : TypeId} {cs : List Value} {n : Int} {f : Nat → Int} {K : Value → Prop} (i : Nat) (hi : L[i]? = some (ptc b t cs)) (hat : ∀ {n : Nat}, n < N → cs[o + n]? = some (i64V (f n))) (hb : 0 ≤ n ∧ n < N) (k : K (i64V (f n.toNat))) : Ld L ⟨b, o + n.toNat * 1, none⟩ K :=
  Ld.at i hi (by rw [Nat.mul_one]; exact hat (by omega)) k
theorem St.arrF {b o N : Nat} {t : TypeId} {n v : Int} {r : Nat → Int} {g : (Nat → Int) → List Value} {K : List HP → Prop} (i : Nat) (hi : L[i]? = some (ptc b t (g r))) (hset : ∀ {n : Nat}, n < N → (g r).set (o + n) (i64V v) = g (upd r n v)) (hN : o + N ≤ (g r).length) (hb : 0 ≤ n ∧ n < N) (k : lsetK L i (ptc b t (g (upd r n.toNat v))) K) :
    St P L ⟨b, o + n.toNat * 1, none⟩ [i64V v] K := by
  refine St.at i hi (by rw [Nat.mul_one]; show o + n.toNat + 1 ≤ (g r).length; omega) rfl ?_
  have e : ovr (g r) (o + n.toNat * 1) [i64V v] = g (upd r n.toNat v) := by
    rw [Nat.mul_one, ← hset (by omega), ovr_eq (by show o + n.toNat + 1 ≤ (g r).length; omega), List.set_eq_take_append_cons_drop, if_pos (by omega)]
    simp
  rw [e]
  exact k
theorem Ld.n9 {b : Nat} {t : TypeId} {r : Nat → Int} {n : Int} {K : Value → Prop} (i : Nat) (hi : L[i]? = some (ptc b t (nine r))) (hb : 0 ≤ n ∧ n < (9 : Nat)) (k : K (i64V (r n.toNat))) : Ld L ⟨b, 0 + n.toNat * 1, none⟩ K := Ld.arr i hi (nine_at r) hb k
theorem Ld.eR {b bm bt m c : Nat} {a : Option Addr} {t : TypeId} {nr nw : Nat → Int} {n : Int} {K : Value → Prop} (i : Nat) (hi : L[i]? = some (ptc b t (engC bm bt a m c nr nw))) (hb : 0 ≤ n ∧ n < (9 : Nat)) (k : K (i64V (nr n.toNat))) : Ld L ⟨b, 3 + n.toNat * 1, none⟩ K := Ld.arr i hi (engR_at bm bt a m c nr nw) hb k
theorem Ld.eW {b bm bt m c : Nat} {a : Option Addr} {t : TypeId} {nr nw : Nat → Int} {n : Int} {K : Value → Prop} (i : Nat) (hi : L[i]? = some (ptc b t (engC bm bt a m c nr nw))) (hb : 0 ≤ n ∧ n < (9 : Nat)) (k : K (i64V (nw n.toNat))) : Ld L ⟨b, 12 + n.toNat * 1, none⟩ K := Ld.arr i hi (engW_at bm bt a m c nr nw) hb k
theorem St.n9 {b : Nat} {t : TypeId} {r : Nat → Int} {n v : Int} {K : List HP → Prop} (i : Nat) (hi : L[i]? = some (ptc b t (nine r))) (hb : 0 ≤ n ∧ n < (9 : Nat)) (k : lsetK L i (ptc b t (nine (upd r n.toNat v))) K) : St P L ⟨b, 0 + n.toNat * 1, none⟩ [i64V v] K :=
  St.arrF (g := nine) i hi (nine_set r v) (Nat.le_refl _) hb k
theorem St.eR {b bm bt m c : Nat} {a : Option Addr} {t : TypeId} {nr nw : Nat → Int} {n v : Int} {K : List HP → Prop} (i : Nat) (hi : L[i]? = some (ptc b t (engC bm bt a m c nr nw))) (hb : 0 ≤ n ∧ n < (9 : Nat)) (k : lsetK L i (ptc b t (engC bm bt a m c (upd nr n.toNat v) nw)) K) : St P L ⟨b, 3 + n.toNat * 1, none⟩ [i64V v] K :=
  St.arrF (g := fun r => engC bm bt a m c r nw) i hi (engR_set bm bt a m c nr nw v) (Nat.le_of_ble_eq_true rfl) hb k
theorem St.eW {b bm bt m c : Nat} {a : Option Addr} {t : TypeId} {nr nw : Nat → Int} {n v : Int} {K : List HP → Prop} (i : Nat) (hi : L[i]? = some (ptc b t (engC bm bt a m c nr nw))) (hb : 0 ≤ n ∧ n < (9 : Nat)) (k : lsetK L i (ptc b t (engC bm bt a m c nr (upd nw n.toNat v))) K) : St P L ⟨b, 12 + n.toNat * 1, none⟩ [i64V v] K :=
  St.arrF (g := fun r => engC bm bt a m c nr r) i hi (engW_set bm bt a m c nr nw v) (Nat.le_refl _) hb k
end
theorem Try.dmaNew (bm bt : Nat) (L : List HP) : Con Try.prog 10 [pV bm, pV bt] L (Exs pV (fun b => ptc b 79 (engC bm bt none 0 0 (fun _ => 0) (fun _ => 0)) :: L) (fun _ => True)) := by
  refine con_of Try.tysOk Try.func10 rfl rfl ?_
  conv => whnf
  repeat' ((with_reducible refine Nc.go' (fun _ => ?_)); conv => whnf)
  all_goals exact Exs.of _ (by (exact Ent.rfl)) trivial rfl
theorem Try.recClone (a : Option Addr) (c : Nat) (xs : List Rec) (L : List HP) (hl : xs.length ≤ 1000000) (hr : Rd recE L a xs) :
    Con Try.prog 34 [.slice a xs.length c] L (New recE 45 xs L) := by
  refine con_of Try.tysOk Try.func34 rfl rfl ?_
  conv => whnf
  repeat' (first
    | ((with_reducible refine Nc.go' (fun _ => ?_)); conv => whnf)
    | ((with_reducible refine (?_ : Sm _ (Builtin.append_ _ _ _) _ _)); (((with_reducible_and_instances apply (Sm.appNew (E := recE) (et := 45) Try.tysOk 0)); (focus rfl)); ((focus rfl); (focus ((repeat (first | assumption | apply Rd.cons)); done))); (focus rfl); (focus rfl); (focus rfl); (focus rfl); (focus rfl); (focus (omega)); (intro _ _ _ _); conv => whnf))
    | ((with_reducible refine Br.bs (fun _ => ?_) (fun _ => ?_) ) <;> (conv => whnf)))
  · rename_i h
    have hx : xs = [] := by
      rcases xs with _ | ⟨x, xs⟩
      · rfl
      · have := hr.ad (by simp)
        rw [this] at h; cases h
    subst hx
    exact New.nil Ent.rfl
  · rename_i a2 c2 hc2 had2; exact New.of rfl hc2 had2 Ent.rfl
theorem Try.dmaRecords (b bm bt c : Nat) (a : Option Addr) (rs : List Rec) (nr nw : Nat → Int) (L : List HP) (hl : rs.length ≤ 1000000) (had : Ad a rs.length) :
    Con Try.prog 13 [pV b] (ptc b 79 (engC bm bt a rs.length c nr nw) :: own recE 45 a c rs :: L)
      (New recE 45 rs (ptc b 79 (engC bm bt a rs.length c nr nw) :: own recE 45 a c rs :: L)) := by
  refine con_of Try.tysOk Try.func13 rfl rfl ?_
  conv => whnf
  repeat' (first
    | ((with_reducible refine Br.sn ?_); conv => whnf)
    | (refine Ld.at 0 rfl rfl ?_; conv => whnf)
    | ((with_reducible refine Cl.new (Try.recClone _ _ _ _ hl (Rd.own 1 rfl had)) (fun _ _ _ _ => ?_)); conv => whnf))
  all_goals exact New.of rfl (by assumption) (by assumption) (by (exact Ent.rfl))
theorem Try.dmaRecordsNil (L : List HP) : Con Try.prog 13 [.pointer none] L (New recE 45 [] L) := by
  refine con_of Try.tysOk Try.func13 rfl rfl ?_
  conv => whnf
  repeat' ((with_reducible refine Br.nn ?_); conv => whnf)
  all_goals exact New.nil (by (exact Ent.rfl))
theorem Try.dmaMoved (b bm bt n c : Nat) (a : Option Addr) (o : Int) (nr nw : Nat → Int) (L : List HP) (ho : 0 ≤ o ∧ o ≤ 8) :
    Con Try.prog 15 [pV b, i64V o] (ptc b 79 (engC bm bt a n c nr nw) :: L) (Is (.tuple #[i64V (nr o.toNat), i64V (nw o.toNat)]) (ptc b 79 (engC bm bt a n c nr nw) :: L)) := by
  refine con_of Try.tysOk Try.func15 rfl rfl ?_
  conv => whnf
  repeat' (first
    | (first | ((with_reducible refine Br.ff ?_); conv => whnf) | ((with_reducible refine Br.sn ?_); conv => whnf) | ((with_reducible refine Br.df ?_ ?_); (focus (first | assumption | omega)); conv => whnf))
    | ((with_reducible refine Ix.arr ?_ ?_); (focus (omega)); conv => whnf)
    | (first | (refine Ld.eW 0 rfl ?_ ?_; (focus (omega)); conv => whnf) | (refine Ld.eR 0 rfl ?_ ?_; (focus (omega)); conv => whnf))
    | ((with_reducible refine Dr.by (id := 3) Try.tysOk rfl [(0, 0), (1, 0), (2, 0), (3, 0), (4, 0), (6, 0), (7, 0), (8, 0), (9, 0), (10, 0), (5, 1), (12, 0), (11, 1), (13, 0)] ?_ ?_); (focus kernel_rfl); conv => whnf))
  all_goals (refine Is.ent ?_ ?_; (focus (exact Ent.rfl)); (exact Is.rfl))
theorem Try.dmaMovedNo (b : Nat) (cs : List Value) (o : Int) (L : List HP) (ho : ¬ (0 ≤ o ∧ o ≤ 8)) :
    Con Try.prog 15 [pV b, i64V o] (ptc b 79 cs :: L) (Is (.tuple #[i64V 0, i64V 0]) (ptc b 79 cs :: L)) := by
  refine con_of Try.tysOk Try.func15 rfl rfl ?_
  conv => whnf
  repeat' (first
    | (first | ((with_reducible refine Br.tt ?_); conv => whnf) | ((with_reducible refine Br.ff ?_); conv => whnf) | ((with_reducible refine Br.sn ?_); conv => whnf) | ((with_reducible refine Br.dt ?_ ?_); (focus (first | assumption | omega)); conv => whnf))
    | ((with_reducible refine Br.ds (fun _ => ?_) (fun _ => ?_) ) <;> (conv => whnf)))
  all_goals first | (refine Is.ent ?_ ?_; (focus (exact Ent.rfl)); (exact Is.rfl)) | (exfalso; omega)
theorem Try.dmaForkNil (b : Nat) (L : List HP) : Con Try.prog 25 [.pointer none, pV b] L (Is (.pointer none) L) := by
  refine con_of Try.tysOk Try.func25 rfl rfl ?_
  conv => whnf
  repeat' ((with_reducible refine Br.nn ?_); conv => whnf)
  all_goals (refine Is.ent ?_ ?_; (focus (exact Ent.rfl)); (exact Is.rfl))
theorem Try.dmaFork (b bm bt c bm2 : Nat) (a : Option Addr) (rs : List Rec) (nr nw : Nat → Int) (L : List HP) (hl : rs.length ≤ 1000000) (had : Ad a rs.length) :
    Con Try.prog 25 [pV b, pV bm2] (ptc b 79 (engC bm bt a rs.length c nr nw) :: own recE 45 a c rs :: L)
      (Exs (fun y : Nat × Option Addr × Nat => pV y.1) (fun y => ptc y.1 79 (engC bm2 bt y.2.1 rs.length y.2.2 nr nw) :: own recE 45 y.2.1 y.2.2 rs :: ptc b 79 (engC bm bt a rs.length c nr nw) :: own recE 45 a c rs :: L) (fun y => rs.length ≤ y.2.2 ∧ Ad y.2.1 rs.length)) := by
  refine con_of Try.tysOk Try.func25 rfl rfl ?_
  conv => whnf
  repeat' (first
    | ((with_reducible refine Br.sn ?_); conv => whnf)
    | ((with_reducible refine Nd.mk ?_ ?_); (focus (first | omega | rfl | assumption | (simp; done))); conv => whnf)
    | ((with_reducible refine Nc.go' (fun _ => ?_)); conv => whnf)
    | (refine LdN.at 0 rfl (by first | exact Nat.le_of_ble_eq_true rfl | (simp; done)) ?_; conv => whnf)
    | (first | (refine St.at 0 rfl (by first | exact Nat.le_of_ble_eq_true rfl | (simp; done)) rfl ?_; conv => whnf) | (refine St.at 3 rfl (by first | exact Nat.le_of_ble_eq_true rfl | (simp; done)) rfl ?_; conv => whnf))
    | (apply (Cl.pre [ptc b _ _, own recE _ a c rs]); (focus (repeat (first | exact FEnt.rfl | (refine FEnt.at 1 rfl ?_; (try simp only [List.eraseIdx_cons_zero, List.eraseIdx_cons_succ, List.eraseIdx_zero, List.tail_cons])))); done); refine Cl.new (Try.dmaRecords _ _ _ _ _ _ _ _ _ hl had) (fun _ _ _ _ => ?_); conv => whnf))
  all_goals (rename_i a2 c2 hc2 had2; exact Exs.of ((_, a2, c2) : Nat × Option Addr × Nat) (by (try dsimp only); (refine FEnt.ent ?_; (repeat (first | exact FEnt.rfl | (refine FEnt.at 3 rfl ?_; (try simp only [List.eraseIdx_cons_zero, List.eraseIdx_cons_succ, List.eraseIdx_zero, List.tail_cons])))); done)) ⟨hc2, had2⟩ rfl)
theorem Try.dmaBurstNil (t o p n e : Int) (w : Bool) (v : Value) (L : List HP) : Con Try.prog 36 [.pointer none, .agg #[i64V t, i64V o, i64V p, i64V n, .bool w, i64V e], v] L (Is (i64V 1) L) := by
  refine con_of Try.tysOk Try.func36 rfl rfl ?_
  conv => whnf
  repeat' (first
    | ((with_reducible refine Br.nn ?_); conv => whnf)
    | ((with_reducible refine Nc.go' (fun _ => ?_)); conv => whnf))
  all_goals (refine Is.ent ?_ ?_; (focus (refine FEnt.ent ?_; (repeat (first | exact FEnt.rfl | refine FEnt.drop ?_)); done)); (exact Is.rfl))
/-- a burst that is refused ahead of the memory -/
theorem Try.dmaBurstNo (b bm bt m c : Nat) (a : Option Addr) (rs : List Rec) (nr nw : Nat → Int) (xs : List Rg) (t o p n : Int) (w : Bool) (e : Int) (v : Value) (L : List HP) (hl : rs.length ≤ 1000000) (had : Ad a rs.length) (h : rgOk xs xs.length) (hb : I64 p ∧ I64 n)
    (he : e ≠ 0) (hm : (32 < n ∧ e = 4) ∨ (¬ 32 < n ∧ mapF xs o p n = (0, e))) :
    Con Try.prog 36 [pV b, .agg #[i64V t, i64V o, i64V p, i64V n, .bool w, i64V 0], v] (ptc b 79 (engC bm bt a rs.length c nr nw) :: ptc bt 74 [.map (some m)] :: mapH m (.int .i64) (xs.map kvR) :: own recE 45 a c rs :: L)
      (Exs (fun y : Option Addr × Nat => i64V e) (fun y => ptc b 79 (engC bm bt y.1 (rs ++ [(t, o, p, n, w, e)]).length y.2 nr nw) :: ptc bt 74 [.map (some m)] :: mapH m (.int .i64) (xs.map kvR) :: own recE 45 y.1 y.2 (rs ++ [(t, o, p, n, w, e)]) :: L) (fun y => (rs ++ [(t, o, p, n, w, e)]).length ≤ y.2 ∧ Ad y.1 (rs ++ [(t, o, p, n, w, e)]).length)) := by
  rcases hm with ⟨h1, h2⟩ | ⟨h1, h2⟩
  · subst h2
    generalize xs.map kvR = es at *
    refine con_of Try.tysOk Try.func36 rfl rfl ?_
    conv => whnf
    repeat' (first
      | (first | ((with_reducible refine Br.sn ?_); conv => whnf) | ((with_reducible refine Br.dt ?_ ?_); (focus (first | assumption | omega)); conv => whnf) | ((with_reducible refine Br.df ?_ ?_); (focus (first | assumption | omega)); conv => whnf) | ((with_reducible refine Br.ndt ?_ ?_); (focus (first | assumption | omega)); conv => whnf))
      | ((with_reducible refine Nd.mk ?_ ?_); (focus (first | omega | rfl | assumption | (simp; done))); conv => whnf)
      | ((with_reducible refine Nc.go' (fun _ => ?_)); conv => whnf)
      | (first | (refine Ld.at 0 rfl rfl ?_; conv => whnf) | (refine Ld.at 1 rfl rfl ?_; conv => whnf) | (refine Ld.at 2 rfl rfl ?_; conv => whnf))
      | (refine LdN.at 0 rfl (by first | exact Nat.le_of_ble_eq_true rfl | (simp; done)) ?_; conv => whnf)
      | (first | (refine St.at 0 rfl (by first | exact Nat.le_of_ble_eq_true rfl | (simp; done)) rfl ?_; conv => whnf) | (refine St.at 3 rfl (by first | exact Nat.le_of_ble_eq_true rfl | (simp; done)) rfl ?_; conv => whnf))
      | ((with_reducible refine Dr.by (id := 10) Try.tysOk rfl [(0, 0), (1, 0), (2, 0), (3, 0), (4, 1), (5, 1), (6, 2), (7, 3), (8, 0), (9, 0), (10, 3)] ?_ ?_); (focus kernel_rfl); conv => whnf)
      | ((with_reducible refine (?_ : Sm _ (Builtin.append_ _ _ _) _ _)); (((with_reducible apply (Sm.appAt (E := recE) (et := 45) Try.tysOk 5)); (focus rfl)); (rotate_left; (focus (exact Rd.ptc 0 rfl [(_, _, _, _, _, _)] rfl)); rotate_right; (focus rfl)); (focus rfl); (focus rfl); (focus rfl); (focus rfl); (focus rfl); (focus rfl); (focus ((simp only [List.length_append, List.length_cons, List.length_nil]); omega)); (intro _ _ _ _); conv => whnf)))
    all_goals (rename_i a2 c2 hc2 had2; exact Exs.of ((a2, c2) : Option Addr × Nat) (by (try dsimp only); (refine FEnt.ent ?_; (repeat (first | exact FEnt.rfl | (refine FEnt.at 0 rfl ?_; (try simp only [List.eraseIdx_cons_zero, List.eraseIdx_cons_succ, List.eraseIdx_zero, List.tail_cons])) | (refine FEnt.at 3 rfl ?_; (try simp only [List.eraseIdx_cons_zero, List.eraseIdx_cons_succ, List.eraseIdx_zero, List.tail_cons])) | refine FEnt.drop ?_)); done)) ⟨hc2, had2⟩ rfl)
  · have hf := fun L => Try.regMap bt m xs o p n L h hb
    rw [h2] at hf
    generalize xs.map kvR = es at *
    refine con_of Try.tysOk Try.func36 rfl rfl ?_
    conv => whnf
    repeat' (first
      | (first | ((with_reducible refine Br.sn ?_); conv => whnf) | ((with_reducible refine Br.df ?_ ?_); (focus (first | assumption | omega)); conv => whnf) | ((with_reducible refine Br.ndt ?_ ?_); (focus (first | assumption | omega)); conv => whnf))
      | ((with_reducible refine Nd.mk ?_ ?_); (focus (first | omega | rfl | assumption | (simp; done))); conv => whnf)
      | ((with_reducible refine Nc.go' (fun _ => ?_)); conv => whnf)
      | (first | (refine Ld.at 0 rfl rfl ?_; conv => whnf) | (refine Ld.at 1 rfl rfl ?_; conv => whnf) | (refine Ld.at 2 rfl rfl ?_; conv => whnf))
      | (refine LdN.at 0 rfl (by first | exact Nat.le_of_ble_eq_true rfl | (simp; done)) ?_; conv => whnf)
      | (first | (refine St.at 0 rfl (by first | exact Nat.le_of_ble_eq_true rfl | (simp; done)) rfl ?_; conv => whnf) | (refine St.at 3 rfl (by first | exact Nat.le_of_ble_eq_true rfl | (simp; done)) rfl ?_; conv => whnf))
      | ((with_reducible refine Dr.by (id := 10) Try.tysOk rfl [(0, 0), (1, 0), (2, 0), (3, 0), (4, 1), (5, 1), (6, 2), (7, 3), (8, 0), (9, 0), (10, 3)] ?_ ?_); (focus kernel_rfl); conv => whnf)
      | ((with_reducible refine Dr.by (id := 6) Try.tysOk rfl [(0, 0), (1, 0), (2, 0), (4, 0), (6, 0), (8, 0), (3, 1), (5, 1), (7, 1), (9, 1), (10, 1), (11, 0), (12, 0), (13, 0), (14, 0), (15, 0), (16, 3)] ?_ ?_); (focus kernel_rfl); conv => whnf)
      | ((with_reducible refine (?_ : CD _ 51 _ _ _)); (first | (refine CD.isAt2 1 1 rfl rfl (fun M => hf M) ?_) | (refine CD.isAt2 2 2 rfl rfl (fun M => hf M) ?_) | (refine CD.isAt2 0 0 rfl rfl (fun M => hf M) ?_) | (refine CD.isAt2 3 3 rfl rfl (fun M => hf M) ?_)); conv => whnf)
      | ((with_reducible refine (?_ : Sm _ (Builtin.append_ _ _ _) _ _)); (((with_reducible apply (Sm.appAt (E := recE) (et := 45) Try.tysOk 5)); (focus rfl)); (rotate_left; (focus (exact Rd.ptc 0 rfl [(_, _, _, _, _, _)] rfl)); rotate_right; (focus rfl)); (focus rfl); (focus rfl); (focus rfl); (focus rfl); (focus rfl); (focus rfl); (focus ((simp only [List.length_append, List.length_cons, List.length_nil]); omega)); (intro _ _ _ _); conv => whnf)))
    all_goals (rename_i a2 c2 hc2 had2; exact Exs.of ((a2, c2) : Option Addr × Nat) (by (try dsimp only); (refine FEnt.ent ?_; (repeat (first | exact FEnt.rfl | (refine FEnt.at 0 rfl ?_; (try simp only [List.eraseIdx_cons_zero, List.eraseIdx_cons_succ, List.eraseIdx_zero, List.tail_cons])) | (refine FEnt.at 3 rfl ?_; (try simp only [List.eraseIdx_cons_zero, List.eraseIdx_cons_succ, List.eraseIdx_zero, List.tail_cons])) | refine FEnt.drop ?_)); done)) ⟨hc2, had2⟩ rfl)
/-- a burst that the memory refuses -/
theorem Try.dmaBurstMem (b bm bt m c : Nat) (a : Option Addr) (rs : List Rec) (nr nw : Nat → Int) (xs : List Rg) (t o p n q : Int) (w : Bool) (e : Int) (g : FuncId) (cs : List Value) (L : List HP) (hl : rs.length ≤ 1000000) (had : Ad a rs.length) (h : rgOk xs xs.length) (hb : I64 p ∧ I64 n)
    (he : e ≠ 0) (hn : ¬ 32 < n) (hm : mapF xs o p n = (q, 0))
    (hg : ∀ X Y Z W, Con Try.prog g (i64V q :: cs) (X :: ptc b 79 (engC bm bt a rs.length c nr nw) :: Y :: Z :: W :: L) (Is (i64V e) (X :: ptc b 79 (engC bm bt a rs.length c nr nw) :: Y :: Z :: W :: L))) :
    Con Try.prog 36 [pV b, .agg #[i64V t, i64V o, i64V p, i64V n, .bool w, i64V 0], .func (.func g) #[] cs.toArray] (ptc b 79 (engC bm bt a rs.length c nr nw) :: ptc bt 74 [.map (some m)] :: mapH m (.int .i64) (xs.map kvR) :: own recE 45 a c rs :: L)
      (Exs (fun y : Option Addr × Nat => i64V e) (fun y => ptc b 79 (engC bm bt y.1 (rs ++ [(t, o, p, n, w, e)]).length y.2 nr nw) :: ptc bt 74 [.map (some m)] :: mapH m (.int .i64) (xs.map kvR) :: own recE 45 y.1 y.2 (rs ++ [(t, o, p, n, w, e)]) :: L) (fun y => (rs ++ [(t, o, p, n, w, e)]).length ≤ y.2 ∧ Ad y.1 (rs ++ [(t, o, p, n, w, e)]).length)) := by
  have hf := fun L => Try.regMap bt m xs o p n L h hb
  rw [hm] at hf
  generalize xs.map kvR = es at *
  refine con_of Try.tysOk Try.func36 rfl rfl ?_
  conv => whnf
  repeat' (first
    | (first | ((with_reducible refine Br.sn ?_); conv => whnf) | ((with_reducible refine Br.dt ?_ ?_); (focus (first | assumption | omega)); conv => whnf) | ((with_reducible refine Br.df ?_ ?_); (focus (first | assumption | omega)); conv => whnf))
    | ((with_reducible refine Nd.mk ?_ ?_); (focus (first | omega | rfl | assumption | (simp; done))); conv => whnf)
    | ((with_reducible refine Nc.go' (fun _ => ?_)); conv => whnf)
    | (first | (refine Ld.at 0 rfl rfl ?_; conv => whnf) | (refine Ld.at 1 rfl rfl ?_; conv => whnf))
    | (refine St.at 0 rfl (by first | exact Nat.le_of_ble_eq_true rfl | (simp; done)) rfl ?_; conv => whnf)
    | ((with_reducible refine Dr.by (id := 6) Try.tysOk rfl [(0, 0), (1, 0), (2, 0), (4, 0), (6, 0), (8, 0), (3, 1), (5, 1), (7, 1), (9, 1), (10, 1), (11, 0), (12, 0), (13, 0), (14, 0), (15, 0), (16, 3)] ?_ ?_); (focus kernel_rfl); conv => whnf)
    | ((with_reducible refine (?_ : CD _ 51 _ _ _)); (first | (refine CD.isAt2 1 1 rfl rfl (fun M => hf M) ?_) | (refine CD.isAt2 2 2 rfl rfl (fun M => hf M) ?_) | (refine CD.isAt2 0 0 rfl rfl (fun M => hf M) ?_) | (refine CD.isAt2 3 3 rfl rfl (fun M => hf M) ?_)); conv => whnf))
  rw [forceL_eq]
  refine Cl.is (hg _ _ _ _) ?_
  conv => whnf
  repeat' (first
    | ((with_reducible refine Br.ndt ?_ ?_); (focus (first | assumption | omega)); conv => whnf)
    | ((with_reducible refine Nd.mk ?_ ?_); (focus (first | omega | rfl | assumption | (simp; done))); conv => whnf)
    | ((with_reducible refine Nc.go' (fun _ => ?_)); conv => whnf)
    | (first | (refine Ld.at 0 rfl rfl ?_; conv => whnf) | (refine Ld.at 1 rfl rfl ?_; conv => whnf) | (refine Ld.at 2 rfl rfl ?_; conv => whnf))
    | (refine LdN.at 0 rfl (by first | exact Nat.le_of_ble_eq_true rfl | (simp; done)) ?_; conv => whnf)
    | (first | (refine St.at 0 rfl (by first | exact Nat.le_of_ble_eq_true rfl | (simp; done)) rfl ?_; conv => whnf) | (refine St.at 3 rfl (by first | exact Nat.le_of_ble_eq_true rfl | (simp; done)) rfl ?_; conv => whnf))
    | ((with_reducible refine Dr.by (id := 10) Try.tysOk rfl [(0, 0), (1, 0), (2, 0), (3, 0), (4, 1), (5, 1), (6, 2), (7, 3), (8, 0), (9, 0), (10, 3)] ?_ ?_); (focus kernel_rfl); conv => whnf)
    | ((with_reducible refine (?_ : Sm _ (Builtin.append_ _ _ _) _ _)); (((with_reducible apply (Sm.appAt (E := recE) (et := 45) Try.tysOk 5)); (focus rfl)); (rotate_left; (focus (exact Rd.ptc 0 rfl [(_, _, _, _, _, _)] rfl)); rotate_right; (focus rfl)); (focus rfl); (focus rfl); (focus rfl); (focus rfl); (focus rfl); (focus rfl); (focus ((simp only [List.length_append, List.length_cons, List.length_nil]); omega)); (intro _ _ _ _); conv => whnf)))
  all_goals (rename_i a2 c2 hc2 had2; exact Exs.of ((a2, c2) : Option Addr × Nat) (by (try dsimp only); (refine FEnt.ent ?_; (repeat (first | exact FEnt.rfl | (refine FEnt.at 0 rfl ?_; (try simp only [List.eraseIdx_cons_zero, List.eraseIdx_cons_succ, List.eraseIdx_zero, List.tail_cons])) | (refine FEnt.at 3 rfl ?_; (try simp only [List.eraseIdx_cons_zero, List.eraseIdx_cons_succ, List.eraseIdx_zero, List.tail_cons])) | refine FEnt.drop ?_)); done)) ⟨hc2, had2⟩ rfl)
/-- a burst that is done -/
theorem Try.dmaBurstOk (b bm bt m c : Nat) (a : Option Addr) (rs : List Rec) (nr nw : Nat → Int) (xs : List Rg) (t o p n q : Int) (w : Bool) (g : FuncId) (cs : List Value) (L L' : List HP) (h : rgOk xs xs.length) (hb : I64 p ∧ I64 n)
    (hn : ¬ 32 < n) (hm : mapF xs o p n = (q, 0))
    (hg : ∀ X Y Z W, Con Try.prog g (i64V q :: cs) (X :: ptc b 79 (engC bm bt a rs.length c nr nw) :: Y :: Z :: W :: L) (Is (i64V 0) (X :: ptc b 79 (engC bm bt a rs.length c nr nw) :: Y :: Z :: W :: L'))) :
    Con Try.prog 36 [pV b, .agg #[i64V t, i64V o, i64V p, i64V n, .bool w, i64V 0], .func (.func g) #[] cs.toArray] (ptc b 79 (engC bm bt a rs.length c nr nw) :: ptc bt 74 [.map (some m)] :: mapH m (.int .i64) (xs.map kvR) :: own recE 45 a c rs :: L)
      (Is (i64V 0) (ptc b 79 (engC bm bt a rs.length c nr nw) :: ptc bt 74 [.map (some m)] :: mapH m (.int .i64) (xs.map kvR) :: own recE 45 a c rs :: L')) := by
  have hf := fun L => Try.regMap bt m xs o p n L h hb
  rw [hm] at hf
  generalize xs.map kvR = es at *
  refine con_of Try.tysOk Try.func36 rfl rfl ?_
  conv => whnf
  repeat' (first
    | (first | ((with_reducible refine Br.sn ?_); conv => whnf) | ((with_reducible refine Br.dt ?_ ?_); (focus (first | assumption | omega)); conv => whnf) | ((with_reducible refine Br.df ?_ ?_); (focus (first | assumption | omega)); conv => whnf))
    | ((with_reducible refine Nd.mk ?_ ?_); (focus (first | omega | rfl | assumption | (simp; done))); conv => whnf)
    | ((with_reducible refine Nc.go' (fun _ => ?_)); conv => whnf)
    | (first | (refine Ld.at 0 rfl rfl ?_; conv => whnf) | (refine Ld.at 1 rfl rfl ?_; conv => whnf))
    | (refine St.at 0 rfl (by first | exact Nat.le_of_ble_eq_true rfl | (simp; done)) rfl ?_; conv => whnf)
    | ((with_reducible refine Dr.by (id := 6) Try.tysOk rfl [(0, 0), (1, 0), (2, 0), (4, 0), (6, 0), (8, 0), (3, 1), (5, 1), (7, 1), (9, 1), (10, 1), (11, 0), (12, 0), (13, 0), (14, 0), (15, 0), (16, 3)] ?_ ?_); (focus kernel_rfl); conv => whnf)
    | ((with_reducible refine (?_ : CD _ 51 _ _ _)); (first | (refine CD.isAt2 1 1 rfl rfl (fun M => hf M) ?_) | (refine CD.isAt2 2 2 rfl rfl (fun M => hf M) ?_) | (refine CD.isAt2 0 0 rfl rfl (fun M => hf M) ?_) | (refine CD.isAt2 3 3 rfl rfl (fun M => hf M) ?_)); conv => whnf))
  rw [forceL_eq]
  refine Cl.is (hg _ _ _ _) ?_
  conv => whnf
  repeat' (first
    | ((with_reducible refine Br.ndf ?_ ?_); (focus (first | assumption | omega)); conv => whnf)
    | ((with_reducible refine Nd.mk ?_ ?_); (focus (first | omega | rfl | assumption | (simp; done))); conv => whnf)
    | (refine Ld.at 0 rfl rfl ?_; conv => whnf)
    | (refine St.at 0 rfl (by first | exact Nat.le_of_ble_eq_true rfl | (simp; done)) rfl ?_; conv => whnf))
  all_goals (refine Is.ent ?_ ?_; (focus (refine FEnt.ent ?_; (repeat (first | exact FEnt.rfl | (refine FEnt.at 1 rfl ?_; (try simp only [List.eraseIdx_cons_zero, List.eraseIdx_cons_succ, List.eraseIdx_zero, List.tail_cons])) | refine FEnt.drop ?_)); done)); (exact Is.rfl))
end Go.Proofs
