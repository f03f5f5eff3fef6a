/- The device for blocks: its great type. -/
import Derived.Test.YtdjpcfaidgofoaaGreatTopK
import Derived.Test.YtdjpcfaidgofoaaGreatSortI
set_option linter.all false
namespace Go.Proofs
open Go.Eng
open Classical
set_option linter.unusedVariables false
set_option maxRecDepth 100000
set_option maxHeartbeats 4000000
/-- the tables that are tried -/
def isC0 (C : Cfg) : Prop := C.F = 20 ∧ C.ws = [(0, 0, 4), (1, 4, 20)] ∧ C.ss = [(1, 4, 12)] ∧ C.xs = [⟨128, 64, 1, 0, 2, 2, 0, 3, 0, 0⟩]
theorem Tryz.clk20 (t : Int) (L : List HP) (ht : 0 ≤ t ∧ t < 20) : Con Tryz.prog 152 [n64 t, n64 20] L (Is (.tuple #[n64 0, n64 t]) L) := by
  have h := Tryz.clkFrame t 20 L ⟨by omega, by omega⟩ ⟨by omega, by omega⟩
  rwa [show t / 20 = 0 by omega, show t % 20 = t by omega] at h
theorem Tryz.plnFindB (b : Nat) (a : Option Addr) (c : Nat) (W : Nat → Sp) (s g : Value) (t : Int) (p : Bool) (f : FuncId) (L : List HP) (ht : 0 ≤ t ∧ t < 20)
    (hg : ∀ L, Con Tryz.prog f [spV (W 1).1 (W 1).2, n64 t] L (Is (.bool p) L)) :
    Con Tryz.prog 142 [pV b, n64 t, .func (.func f) #[] #[]] (ptc b 156 (plnC 20 a 1 c W s g) :: L) (Is (n64 (if p = true then 1 else 0)) (ptc b 156 (plnC 20 a 1 c W s g) :: L)) := by
  have hc := fun L => Tryz.clk20 t L ht
  refine con_of Tryz.tysOk Tryz.func142 rfl rfl ?_
  conv => whnf
  repeat' (first
    | ((with_reducible refine Br.df ?_ ?_); (focus (first | assumption | omega)); conv => whnf)
    | ((with_reducible refine Nd.mk ?_ ?_); (focus (first | omega | rfl | assumption | (simp; done))); conv => whnf)
    | (first | ((refine Cl.isAt 0 rfl (Tryz.plnFrameB b _ _ _ _ _ _ _ _) ?_); conv => whnf) | ((with_reducible refine Cl.is (hc _) ?_); conv => whnf)))
  all_goals try (exfalso; omega)
  conv => whnf
  refine Lp.by Tryz.tysOk [9] (fun (o : Int) => [n64 o]) (fun o => ptc b 156 (plnC 20 a 1 c W s g) :: L) (fun o => o = 1 ∨ (o = 2 ∧ p = false)) (fun o => (3 - o).toNat) (1) (by kernel_rfl) (by (exact Ent.rfl)) ((Or.inl rfl)) ?_
  rintro o ho
  conv => whnf
  repeat (intro _; conv => whnf)
  rcases ho with rfl | ⟨rfl, hp⟩
  · cases p with
    | true =>
      rw [if_pos rfl]
      conv => whnf
      repeat' (first
        | (first | ((with_reducible refine Br.tt ?_); conv => whnf) | ((with_reducible refine Br.dt ?_ ?_); (focus (first | assumption | omega)); conv => whnf))
        | ((with_reducible refine Ix.ad ?_ ?_ ?_); (focus (exact fun _ => rfl)); (focus (omega)); conv => whnf)
        | (refine LdN.at 0 rfl (by first | exact Nat.le_of_ble_eq_true rfl | (simp; done)) ?_; conv => whnf)
        | (first | ((refine Cl.isAt 0 rfl (Tryz.plnOwnersB b _ _ _ _ _ _ _ _) ?_); conv => whnf) | ((with_reducible refine Cl.is (hg _) ?_); conv => whnf)))
      all_goals first | (exfalso; omega) | (refine Is.ent ?_ ?_; (focus (exact Ent.rfl)); (exact Is.rfl))
    | false =>
      rw [if_neg (by decide)]
      conv => whnf
      repeat' (first
        | (first | ((with_reducible refine Br.ff ?_); conv => whnf) | ((with_reducible refine Br.dt ?_ ?_); (focus (first | assumption | omega)); conv => whnf))
        | ((with_reducible refine Ar.i64 ?_ ?_); (focus omega); conv => whnf)
        | ((with_reducible refine Ix.ad ?_ ?_ ?_); (focus (exact fun _ => rfl)); (focus (omega)); conv => whnf)
        | (refine LdN.at 0 rfl (by first | exact Nat.le_of_ble_eq_true rfl | (simp; done)) ?_; conv => whnf)
        | (first | ((refine Cl.isAt 0 rfl (Tryz.plnOwnersB b _ _ _ _ _ _ _ _) ?_); conv => whnf) | ((with_reducible refine Cl.is (hg _) ?_); conv => whnf)))
      all_goals first | (exfalso; omega) | exact ⟨2, by kernel_rfl, by (exact Ent.rfl), .inr ⟨rfl, rfl⟩, by decide⟩
  · subst hp
    rw [if_neg (by decide)]
    conv => whnf
    repeat' (first
      | ((with_reducible refine Br.df ?_ ?_); (focus (first | assumption | omega)); conv => whnf)
      | ((refine Cl.isAt 0 rfl (Tryz.plnOwnersB b _ _ _ _ _ _ _ _) ?_); conv => whnf))
    all_goals first | (exfalso; omega) | (refine Is.ent ?_ ?_; (focus (exact Ent.rfl)); (exact Is.rfl))
theorem Tryz.plnOpens1 (x y t : Int) (L : List HP) : Con Tryz.prog 143 [spV x y, n64 t] L (Is (.bool (decide (x = t))) L) := by
  refine con_of Tryz.tysOk Tryz.func143 rfl rfl ?_
  conv => whnf
  repeat' (first
    | ((with_reducible refine Nc.go' (fun _ => ?_)); conv => whnf)
    | (refine Ld.at 0 rfl rfl ?_; conv => whnf))
  all_goals (refine Is.ent ?_ ?_; (focus (refine FEnt.ent ?_; (repeat (first | exact FEnt.rfl | refine FEnt.drop ?_)); done)); (exact Is.rfl))
theorem Tryz.plnOpens (C : Cfg) (b : Nat) (t : Int) (L : List HP) (h : isC0 C) (ht : 0 ≤ t ∧ t < 20) : Con Tryz.prog 82 [pV b, n64 t] (Tryz.plnH C b :: L) (Is (n64 (if decide ((4 : Int) = t) = true then 1 else 0)) (Tryz.plnH C b :: L)) := by
  obtain ⟨F, wa, wc, W, sa, sc, S, ca, cc, X⟩ := C
  obtain ⟨rfl, rfl, rfl, rfl⟩ := h
  refine Tryz.plnOpen fun ⟨⟨ca, cc⟩, bs, ⟨sa, sc⟩, bg⟩ ⟨g1, g2, g3, g4⟩ => ?_
  dsimp only at g1 g2 g3 g4 ⊢
  have hf := fun L => Tryz.plnFindB b ca cc (wndF [(0, 0, 4), (1, 4, 20)]) (pV bs) (pV bg) t (decide ((4 : Int) = t)) 143 L ht (fun L => Tryz.plnOpens1 4 20 t L)
  generalize (if decide ((4 : Int) = t) = true then (1 : Int) else 0) = r at *
  refine con_of Tryz.tysOk Tryz.func82 rfl rfl ?_
  conv => whnf
  repeat' ((refine Cl.isAt 0 rfl (hf _) ?_); conv => whnf)
  all_goals (refine Is.ent ?_ ?_; (focus (refine FEnt.ent ?_; (repeat (first | exact FEnt.rfl | (apply Tryz.plnShut) | rfl | assumption)); done)); (exact Is.rfl))
theorem Tryz.plnRuns (C : Cfg) (b : Nat) (t : Int) (L : List HP) (h : isC0 C) (ht : 0 ≤ t ∧ t < 20) : Con Tryz.prog 85 [pV b, n64 t] (Tryz.plnH C b :: L) (Is (n64 (if decide (isS 4 20 ∧ 4 ≤ t ∧ t < 20) = true then 1 else 0)) (Tryz.plnH C b :: L)) := by
  obtain ⟨F, wa, wc, W, sa, sc, S, ca, cc, X⟩ := C
  obtain ⟨rfl, rfl, rfl, rfl⟩ := h
  refine Tryz.plnOpen fun ⟨⟨ca, cc⟩, bs, ⟨sa, sc⟩, bg⟩ ⟨g1, g2, g3, g4⟩ => ?_
  dsimp only at g1 g2 g3 g4 ⊢
  have hf := fun L => Tryz.plnFindB b ca cc (wndF [(0, 0, 4), (1, 4, 20)]) (pV bs) (pV bg) t (decide (isS 4 20 ∧ 4 ≤ t ∧ t < 20)) 151 L ht (fun L => Tryz.spanHolds 4 20 t L)
  generalize (if decide (isS 4 20 ∧ 4 ≤ t ∧ t < 20) = true then (1 : Int) else 0) = r at *
  refine con_of Tryz.tysOk Tryz.func85 rfl rfl ?_
  conv => whnf
  repeat' ((refine Cl.isAt 0 rfl (hf _) ?_); conv => whnf)
  all_goals (refine Is.ent ?_ ?_; (focus (refine FEnt.ent ?_; (repeat (first | exact FEnt.rfl | (apply Tryz.plnShut) | rfl | assumption)); done)); (exact Is.rfl))
theorem Tryz.plnWindowB (b : Nat) (F : Int) (a : Option Addr) (c : Nat) (W : Nat → Sp) (s g : Value) (L : List HP) :
    Con Tryz.prog 180 [pV b, n64 0] (ptc b 156 (plnC F a 1 c W s g) :: L) (Is (spV (W 0).1 (W 0).2) (ptc b 156 (plnC F a 1 c W s g) :: L)) := by
  refine con_of Tryz.tysOk Tryz.func180 rfl rfl ?_
  conv => whnf
  repeat' (first
    | (first | ((with_reducible refine Br.ff ?_); conv => whnf) | ((with_reducible refine Br.sn ?_); conv => whnf) | ((with_reducible refine Br.df ?_ ?_); (focus (first | assumption | omega)); conv => whnf))
    | ((with_reducible refine Nd.mk ?_ ?_); (focus (first | omega | rfl | assumption | (simp; done))); conv => whnf)
    | ((with_reducible refine Nc.go' (fun _ => ?_)); conv => whnf)
    | ((with_reducible refine Ix.ad ?_ ?_ ?_); (focus (exact fun _ => rfl)); (focus (omega)); conv => whnf)
    | (first | (refine LdN.at 0 rfl (by first | exact Nat.le_of_ble_eq_true rfl | (simp; done)) ?_; conv => whnf) | (refine LdN.at 1 rfl (by first | exact Nat.le_of_ble_eq_true rfl | (simp; done)) ?_; conv => whnf))
    | (refine St.at 0 rfl (by first | exact Nat.le_of_ble_eq_true rfl | (simp; done)) rfl ?_; conv => whnf)
    | ((refine Cl.isAt 1 rfl (Tryz.plnOwnersB b _ _ _ _ _ _ _ _) ?_); conv => whnf))
  all_goals first | (exfalso; omega) | (refine Is.ent ?_ ?_; (focus (refine FEnt.ent ?_; (repeat (first | exact FEnt.rfl | (refine FEnt.at 1 rfl ?_; (try simp only [List.eraseIdx_cons_zero, List.eraseIdx_cons_succ, List.eraseIdx_zero, List.tail_cons])) | refine FEnt.drop ?_)); done)); (exact Is.rfl))
theorem Tryz.plnDutyB (b : Nat) (a : Option Addr) (c : Nat) (W : Nat → Sp) (s g : Value) (t : Int) (L : List HP) (ht : 0 ≤ t ∧ t < 20) (hW : (W 0).1 = 0) :
    Con Tryz.prog 148 [pV b, n64 t] (ptc b 156 (plnC 20 a 1 c W s g) :: L) (Is (.agg #[n64 (if t < 2 then 1 + (t - (W 0).1).tmod 2 else 0), n64 (if t < 2 then (t - (W 0).1).tdiv 2 + 1 else 0)]) (ptc b 156 (plnC 20 a 1 c W s g) :: L)) := by
  have hc := fun L => Tryz.clk20 t L ht
  have hq : (t - (W 0).1).tdiv 2 = t / 2 := by rw [hW, Int.sub_zero]; exact Int.tdiv_eq_ediv_of_nonneg ht.1
  have hr : (t - (W 0).1).tmod 2 = t % 2 := by rw [hW, Int.sub_zero]; exact Int.tmod_eq_emod_of_nonneg ht.1
  by_cases h2 : t < 2
  · rw [if_pos h2, if_pos h2]
    refine con_of Tryz.tysOk Tryz.func148 rfl rfl ?_
    conv => whnf
    repeat' (first
      | (first | ((with_reducible refine Br.ff ?_); conv => whnf) | ((with_reducible refine Br.df ?_ ?_); (focus (first | assumption | omega)); conv => whnf))
      | ((with_reducible refine Ar.i64 ?_ ?_); (focus omega); conv => whnf)
      | ((with_reducible refine Nd.mk ?_ ?_); (focus (first | omega | rfl | assumption | (simp; done))); conv => whnf)
      | ((with_reducible refine Nc.go' (fun _ => ?_)); conv => whnf)
      | (refine LdN.at 0 rfl (by first | exact Nat.le_of_ble_eq_true rfl | (simp; done)) ?_; conv => whnf)
      | (refine St.at 0 rfl (by first | exact Nat.le_of_ble_eq_true rfl | (simp; done)) rfl ?_; conv => whnf)
      | (first | ((refine Cl.isAt 1 rfl (Tryz.plnFrameB b _ _ _ _ _ _ _ _) ?_); conv => whnf) | ((with_reducible refine Cl.is (hc _) ?_); conv => whnf) | ((refine Cl.isAt 1 rfl (Tryz.plnWindowB b _ _ _ _ _ _ _) ?_); conv => whnf) | ((refine Cl.isAt 1 rfl (Tryz.plnOwnersB b _ _ _ _ _ _ _ _) ?_); conv => whnf)))
    all_goals first | (exfalso; omega) | (refine Is.ent ?_ ?_; (focus (refine FEnt.ent ?_; (repeat (first | exact FEnt.rfl | (refine FEnt.at 1 rfl ?_; (try simp only [List.eraseIdx_cons_zero, List.eraseIdx_cons_succ, List.eraseIdx_zero, List.tail_cons])) | refine FEnt.drop ?_)); done)); (exact Is.rfl))
  · rw [if_neg h2, if_neg h2]
    refine con_of Tryz.tysOk Tryz.func148 rfl rfl ?_
    conv => whnf
    repeat' (first
      | (first | ((with_reducible refine Br.ff ?_); conv => whnf) | ((with_reducible refine Br.dt ?_ ?_); (focus (first | assumption | omega)); conv => whnf) | ((with_reducible refine Br.df ?_ ?_); (focus (first | assumption | omega)); conv => whnf))
      | ((with_reducible refine Ar.i64 ?_ ?_); (focus omega); conv => whnf)
      | ((with_reducible refine Nd.mk ?_ ?_); (focus (first | omega | rfl | assumption | (simp; done))); conv => whnf)
      | ((with_reducible refine Nc.go' (fun _ => ?_)); conv => whnf)
      | (refine LdN.at 0 rfl (by first | exact Nat.le_of_ble_eq_true rfl | (simp; done)) ?_; conv => whnf)
      | (refine St.at 0 rfl (by first | exact Nat.le_of_ble_eq_true rfl | (simp; done)) rfl ?_; conv => whnf)
      | (first | ((refine Cl.isAt 1 rfl (Tryz.plnFrameB b _ _ _ _ _ _ _ _) ?_); conv => whnf) | ((with_reducible refine Cl.is (hc _) ?_); conv => whnf) | ((refine Cl.isAt 1 rfl (Tryz.plnWindowB b _ _ _ _ _ _ _) ?_); conv => whnf) | ((refine Cl.isAt 1 rfl (Tryz.plnOwnersB b _ _ _ _ _ _ _ _) ?_); conv => whnf)))
    all_goals first | (exfalso; omega) | (refine Is.ent ?_ ?_; (focus (refine FEnt.ent ?_; (repeat (first | exact FEnt.rfl | (refine FEnt.at 1 rfl ?_; (try simp only [List.eraseIdx_cons_zero, List.eraseIdx_cons_succ, List.eraseIdx_zero, List.tail_cons])) | refine FEnt.drop ?_)); done)); (exact Is.rfl))
theorem Tryz.plnSlotsB (b : Nat) (F : Int) (a : Option Addr) (n c : Nat) (W : Nat → Sp) (s : Nat) (g : Value) (L : List HP) : Con Tryz.prog 201 [pV b] (ptc b 156 (plnC F a n c W (pV s) g) :: L) (Is (pV s) (ptc b 156 (plnC F a n c W (pV s) g) :: L)) := by
  refine con_of Tryz.tysOk Tryz.func201 rfl rfl ?_
  conv => whnf
  repeat' (first
    | ((with_reducible refine Br.sn ?_); conv => whnf)
    | (refine Ld.at 0 rfl rfl ?_; conv => whnf))
  all_goals (refine Is.ent ?_ ?_; (focus (exact Ent.rfl)); (exact Is.rfl))
theorem c0_ok : slOk 20 [(1, 4, 12)] ([(1, 4, 12)] : List Slt).length := fun i hi => by
  have e : i = 0 := by have : i < 1 := hi; omega
  subst e
  exact ⟨by decide, fun j hj => absurd hj (Nat.not_lt_zero j)⟩
theorem Tryz.plnBus (C : Cfg) (b : Nat) (t : Int) (L : List HP) (h : isC0 C) (ht : 0 ≤ t ∧ t < 20) :
    Con Tryz.prog 177 [pV b, n64 t] (Tryz.plnH C b :: L) (Is (.agg #[n64 (stF 20 [(1, 4, 12)] t).1, n64 (stF 20 [(1, 4, 12)] t).2.1, n64 (stF 20 [(1, 4, 12)] t).2.2]) (Tryz.plnH C b :: L)) := by
  obtain ⟨F, wa, wc, W, sa, sc, S, ca, cc, X⟩ := C
  obtain ⟨rfl, rfl, rfl, rfl⟩ := h
  refine Tryz.plnOpen fun ⟨⟨ca, cc⟩, bs, ⟨sa, sc⟩, bg⟩ ⟨g1, g2, g3, g4⟩ => ?_
  dsimp only at g1 g2 g3 g4 ⊢
  have hat := fun L => Tryz.slAt bs 20 t sa sc [(1, 4, 12)] L (by decide) (by decide) c0_ok ⟨by omega, by omega⟩ g4
  generalize stF 20 [(1, 4, 12)] t = r at *
  refine con_of Tryz.tysOk Tryz.func177 rfl rfl ?_
  conv => whnf
  repeat' (first
    | ((with_reducible refine Nd.mk ?_ ?_); (focus (first | omega | rfl | assumption | (simp; done))); conv => whnf)
    | ((with_reducible refine Nc.go' (fun _ => ?_)); conv => whnf)
    | (refine LdN.at 2 rfl (by first | exact Nat.le_of_ble_eq_true rfl | (simp; done)) ?_; conv => whnf)
    | (refine St.at 2 rfl (by first | exact Nat.le_of_ble_eq_true rfl | (simp; done)) rfl ?_; conv => whnf)
    | (first | ((refine Cl.isAt 1 rfl (Tryz.plnSlotsB b _ _ _ _ _ _ _ _) ?_); conv => whnf) | ((refine Cl.isAt2 3 3 rfl rfl (hat _) ?_); conv => whnf)))
  all_goals (refine Is.ent ?_ ?_; (focus (refine FEnt.ent ?_; (repeat (first | exact FEnt.rfl | (refine FEnt.at 0 rfl ?_; (try simp only [List.eraseIdx_cons_zero, List.eraseIdx_cons_succ, List.eraseIdx_zero, List.tail_cons])) | (refine FEnt.at 3 rfl ?_; (try simp only [List.eraseIdx_cons_zero, List.eraseIdx_cons_succ, List.eraseIdx_zero, List.tail_cons])) | (apply Tryz.plnShut) | refine FEnt.drop ?_ | rfl | assumption)); done)); (exact Is.rfl))
end Go.Proofs
set_option linter.all false
namespace Go.Proofs
open Go.Eng
open Classical
set_option linter.unusedVariables false
set_option maxRecDepth 100000
set_option maxHeartbeats 2000000
abbrev ptC (y : Ln) : List Value := [n64 y.2.2.1, n64 y.2.2.2.1, n64 y.2.2.2.2, pV y.2.1]
def Tryz.ptH (y : Ln) : HP := star (ptc y.1 237 (ptC y)) (ptc y.2.1 308 (qC y.2.2.2.2))
theorem Tryz.niOwnNo (b m : Nat) (ys : List Ln) (ch : Int) (L : List HP) (h8 : ys.length ≤ 8) (hk : ∀ i, i < ys.length → (ys.getD i lnD).2.2.1 = (i : Int) + 1) (hno : ∀ i, i < ys.length → ¬ (ys.getD i lnD).2.2.2.1 = ch)
    (q0 : ∃ i : Nat, L[i]? = some (ptc b 229 [.map (some m), n64 0, .slice none 0 0])) (q1 : ∃ i : Nat, L[i]? = some (mapH m (.int .i64) (ys.map kvL))) (q2 : ∃ i : Nat, L[i]? = some (bigH Tryz.ptH ys)) :
    Con Tryz.prog 120 [pV b, n64 ch] L (Is (n64 0) L) := by
  obtain ⟨i0, q0⟩ := q0
  obtain ⟨i1, q1⟩ := q1
  obtain ⟨i2, q2⟩ := q2
  refine con_of Tryz.tysOk Tryz.func120 rfl rfl ?_
  conv => whnf
  repeat' skip
  conv => whnf
  refine Lp.by Tryz.tysOk [5] (fun (k : Nat) => [.int .i64 k]) (fun k => L) (fun k => 1 ≤ k ∧ k ≤ 9) (fun k => 9 - k) (1) (by kernel_rfl) (by (exact Ent.rfl)) (⟨by omega, by omega⟩) ?_
  rintro k ⟨h0, h1⟩
  conv => whnf
  repeat (intro _; conv => whnf)
  by_cases hk9 : k < 9
  · by_cases hin : 1 ≤ k ∧ k ≤ ys.length
    · have hlt : k - 1 < ys.length := by omega
      have ho := hk (k - 1) hlt
      have e : ((k - 1 : Nat) : Int) + 1 = (k : Int) := by omega
      have hj := kvl_at hlt ho
      rw [e] at hj
      have hy := get_of (d := lnD) hlt
      have hne := hno (k - 1) hlt
      generalize ys.getD (k - 1) lnD = y at *
      generalize ys.map kvL = es at *
      obtain ⟨y1, y2, y3, y4, y5⟩ := y
      dsimp only at hne hj
      conv => whnf
      repeat' (first
        | (first | ((with_reducible refine Br.tt ?_); conv => whnf) | ((with_reducible refine Br.nsn ?_); conv => whnf) | ((with_reducible refine Br.dt ?_ ?_); (focus (first | assumption | omega)); conv => whnf) | ((with_reducible refine Br.df ?_ ?_); (focus (first | assumption | omega)); conv => whnf))
        | ((with_reducible refine Ar.i64 ?_ ?_); (focus omega); conv => whnf)
        | ((refine Ld.at i0 q0 rfl ?_); conv => whnf)
        | ((refine Sm.lkYes Tryz.tysOk i1 q1 rfl rfl rfl rfl (by first | exact rfl | exact trivial) _ hj ?_); conv => whnf)
        | ((refine Ld.big i2 q2 hy (star_cell rfl) ?_); conv => whnf))
      all_goals first | (exfalso; omega) | exact ⟨k + 1, by kernel_rfl, by (exact Ent.rfl), ⟨by omega, by omega⟩, by omega⟩
    · have hj : ∀ p ∈ ys.map kvL, p.1 ≠ n64 (k : Int) := kvl_no fun i hi => by have := hk i hi; omega
      generalize ys.map kvL = es at *
      conv => whnf
      repeat' (first
        | (first | ((with_reducible refine Br.tt ?_); conv => whnf) | ((with_reducible refine Br.ff ?_); conv => whnf) | ((with_reducible refine Br.nsn ?_); conv => whnf) | ((with_reducible refine Br.nnn ?_); conv => whnf) | ((with_reducible refine Br.dt ?_ ?_); (focus (first | assumption | omega)); conv => whnf))
        | ((with_reducible refine Ar.i64 ?_ ?_); (focus omega); conv => whnf)
        | ((refine Ld.at i0 q0 rfl ?_); conv => whnf)
        | ((refine Sm.lkNo Tryz.tysOk i1 q1 rfl rfl rfl rfl rfl (by first | exact rfl | exact trivial) hj ?_); conv => whnf))
      all_goals first | (exfalso; omega) | exact ⟨k + 1, by kernel_rfl, by (exact Ent.rfl), ⟨by omega, by omega⟩, by omega⟩
  · conv => whnf
    repeat' (first | ((with_reducible refine Br.tt ?_); conv => whnf) | ((with_reducible refine Br.nsn ?_); conv => whnf) | ((with_reducible refine Br.df ?_ ?_); (focus (first | assumption | omega)); conv => whnf))
    all_goals (refine Is.ent ?_ ?_; (focus (exact Ent.rfl)); (exact Is.rfl))
theorem Tryz.niNew (a : Option Addr) (c : Nat) (xs : List Slt) (L : List HP) (hl : xs.length ≤ 8) (h : lnOk xs) (hr : Rd slE L a xs) :
    Con Tryz.prog 63 [.slice a xs.length c] L (Exs (fun y : Nat × Nat × List Ln => .tuple #[pV y.1, n64 0]) (fun y => ptc y.1 229 [.map (some y.2.1), n64 0, .slice none 0 0] :: mapH y.2.1 (.int .i64) (y.2.2.map kvL) :: bigH Tryz.ptH y.2.2 :: L)
      (fun y => y.2.2.length = xs.length ∧ ∀ i, i < xs.length → (y.2.2.getD i lnD).2.2 = xs.getD i slE.d)) := by
  refine con_of Tryz.tysOk Tryz.func63 rfl rfl ?_
  conv => whnf
  repeat' (first
    | ((with_reducible refine Nc.go' (fun _ => ?_)); conv => whnf)
    | ((with_reducible refine Nw.map (.int .i64) (fun _ => ?_)); conv => whnf))
  rename_i bm bt
  conv => whnf
  refine Lp.by2 Tryz.tysOk [12] (fun (k : Nat) (ys : List Ln) => [.int .i64 k]) (fun k ys => ptc bt 229 [.map (some bm), n64 0, .slice none 0 0] :: mapH bm (.int .i64) (ys.map kvL) :: bigH Tryz.ptH ys :: L) (fun k ys => k ≤ xs.length ∧ ys.length = k ∧ ∀ i, i < k → (ys.getD i lnD).2.2 = xs.getD i slE.d) (fun k ys => xs.length - k) (0) (([] : List Ln)) (by kernel_rfl) (by (refine FEnt.ent ?_; (repeat (first | exact FEnt.rfl | (refine FEnt.at 0 rfl ?_; (try simp only [List.eraseIdx_cons_zero, List.eraseIdx_cons_succ, List.eraseIdx_zero, List.tail_cons])) | (apply FEnt.big0))); done)) (⟨by omega, rfl, fun i h => by omega⟩) ?_
  rintro k ys ⟨h1, h2, h3⟩
  conv => whnf
  repeat (intro _; conv => whnf)
  by_cases hk : k < xs.length
  · obtain ⟨g1, g2, g3, g4, g5, g6⟩ := h k hk
    have hm : 1 ≤ (xs.getD k slE.d).1 ∧ (xs.getD k slE.d).1 ≤ 8 ∧ 0 ≤ (xs.getD k slE.d).2.1 ∧ (xs.getD k slE.d).2.1 ≤ 255 ∧ 0 ≤ (xs.getD k slE.d).2.2 ∧ (xs.getD k slE.d).2.2 ≤ 16 := by omega
    have hno : ∀ p ∈ ys.map kvL, p.1 ≠ n64 (xs.getD k slE.d).1 := kvl_no fun i hi => by
      rw [h3 i (by omega), (h i (by omega)).1]; omega
    have how : ∀ i, i < ys.length → (ys.getD i lnD).2.2.1 = (i : Int) + 1 := fun i hi => by rw [h3 i (by omega)]; exact (h i (by omega)).1
    have hch : ∀ i, i < ys.length → ¬ (ys.getD i lnD).2.2.2.1 = (xs.getD k slE.d).2.1 := fun i hi => by rw [h3 i (by omega)]; exact g6 i (by omega)
    have hf : ∀ L, Con Tryz.prog 121 [n64 (xs.getD k slE.d).2.2] L (Exs pV (fun b => [ptc b 308 (qC (xs.getD k slE.d).2.2)] ++ L) (fun _ => True)) := fun L => Tryz.fifoNewF (xs.getD k slE.d).2.2 L ⟨g4, g5⟩
    have hmap : ∀ u : Ln, (ys ++ [u]).map kvL = ys.map kvL ++ [kvL u] := fun u => by rw [List.map_append]; rfl
    conv => whnf
    repeat' (first
      | (first | ((with_reducible refine Br.ff ?_); conv => whnf) | ((with_reducible refine Br.nt ?_); conv => whnf) | ((with_reducible refine Br.nnn ?_); conv => whnf) | ((with_reducible refine Br.dt ?_ ?_); (focus (first | assumption | omega)); conv => whnf) | ((with_reducible refine Br.ndf ?_ ?_); (focus (first | assumption | omega)); conv => whnf))
      | ((with_reducible refine Ar.i64 ?_ ?_); (focus omega); conv => whnf)
      | ((with_reducible refine Nd.mk ?_ ?_); (focus (first | omega | rfl | assumption | (simp; done))); conv => whnf)
      | ((with_reducible refine Nc.go' (fun _ => ?_)); conv => whnf)
      | ((with_reducible refine Ix.ad ?_ ?_ ?_); (focus (exact Rd.ad (by assumption))); (focus (omega)); conv => whnf)
      | (first | (refine Ld.at 0 rfl rfl ?_; conv => whnf) | (refine Ld.at 1 rfl rfl ?_; conv => whnf))
      | (first | ((with_reducible apply LdN.rdk); (focus ((repeat (first | assumption | apply Rd.cons)); done)); (focus rfl); (focus rfl); (focus (omega)); conv => whnf) | (refine LdN.at 0 rfl (by first | exact Nat.le_of_ble_eq_true rfl | (simp; done)) ?_; conv => whnf))
      | (refine St.at 0 rfl (by first | exact Nat.le_of_ble_eq_true rfl | (simp; done)) rfl ?_; conv => whnf)
      | ((with_reducible refine Dr.by (id := 7) Tryz.tysOk rfl [(0, 0), (1, 0), (2, 0), (4, 0), (3, 1), (5, 1), (6, 1), (7, 0), (8, 0), (9, 0), (10, 0), (11, 1), (12, 1), (13, 0), (14, 0)] ?_ ?_); (focus kernel_rfl); conv => whnf)
      | ((with_reducible refine Dr.by (id := 9) Tryz.tysOk rfl [(0, 0), (1, 0), (2, 0), (4, 0), (7, 0), (3, 1), (5, 1), (6, 1), (8, 1), (9, 4), (10, 0), (11, 2), (12, 3)] ?_ ?_); (focus kernel_rfl); conv => whnf)
      | ((with_reducible refine (?_ : SR _ (Instr.lookup _ _ _ _) _ _)); (refine SR.lkNo Tryz.tysOk 2 rfl rfl rfl rfl rfl rfl (by first | exact rfl | exact trivial) (hno) ?_; conv => whnf))
      | ((with_reducible refine (?_ : Sm _ (Instr.mapUpdate _ _ _ _ >>= _) _ _)); (refine Sm.putNew Tryz.tysOk 4 rfl rfl rfl rfl rfl (by first | exact rfl | exact trivial) (hno) ?_; conv => whnf))
      | ((with_reducible refine (?_ : CD _ 120 _ _ _)); (refine CD.is (fun M => Tryz.niOwnNo bt bm ys _ _ (by omega) how hch ⟨_, at_app (i := 1) rfl⟩ ⟨_, at_app (i := 2) rfl⟩ ⟨_, at_app (i := 3) rfl⟩) ?_); conv => whnf)
      | ((with_reducible refine CN.exs (fun M => hf _) (fun f _ => ?_)); conv => whnf)
      | ((with_reducible refine Cl.is (Con.dt hm (Tryz.niMay _ _ _ _)) ?_); conv => whnf))
    all_goals try (exfalso; omega)
    all_goals
      rename_i bln
      exact ⟨k + 1, ys ++ [((bln, f, xs.getD k slE.d) : Ln)], by kernel_rfl, by (try dsimp only); rw [hmap]; (refine FEnt.ent ?_; (repeat (first | exact FEnt.rfl | (refine FEnt.at 0 rfl ?_; (try simp only [List.eraseIdx_cons_zero, List.eraseIdx_cons_succ, List.eraseIdx_zero, List.tail_cons])) | (refine FEnt.at 1 rfl ?_; (try simp only [List.eraseIdx_cons_zero, List.eraseIdx_cons_succ, List.eraseIdx_zero, List.tail_cons])) | (refine FEnt.at 3 rfl ?_; (try simp only [List.eraseIdx_cons_zero, List.eraseIdx_cons_succ, List.eraseIdx_zero, List.tail_cons])) | (apply FEnt.bigS) | refine FEnt.star ?_ | refine FEnt.drop ?_)); done), ⟨by omega, by rw [List.length_append, h2]; rfl, fun i hi => by
        by_cases e : i = k
        · subst e; rw [getD_eqn h2]
        · rw [getD_lt (by omega)]; exact h3 i (by omega)⟩, by omega⟩
  · have e : k = xs.length := by omega
    subst e
    conv => whnf
    repeat' ((with_reducible refine Br.df ?_ ?_); (focus (first | assumption | omega)); conv => whnf)
    all_goals exact Exs.of (bt, bm, ys) (by (try dsimp only); (exact Ent.rfl)) ⟨h2, h3⟩ rfl
end Go.Proofs
set_option linter.all false
namespace Go.Eng
open Go
theorem tysOk_set {P : Program} {τ : Tys} {i : Nat} {x : TyI} (h : TysOk P τ) (hx : TyOk P i x) : TysOk P (τ.set i (some x)) := fun t j hj => by
  rw [List.getElem?_set] at hj
  split at hj
  · rename_i e
    subst e
    split at hj
    · simp only [Option.some.injEq] at hj
      subst hj
      exact hx
    · cases hj
  · exact h t j hj
theorem head_tail {α : Type} {l : List α} {x : α} (h : l.head? = some x) : l = x :: l.tail := by
  cases l with
  | nil => simp at h
  | cons y l => simp only [List.head?_cons, Option.some.injEq] at h; subst h; rfl
end Go.Eng
namespace Go.Proofs
open Go.Eng
set_option maxRecDepth 100000
set_option maxHeartbeats 4000000
abbrev Tryz.tySec (DS : List Value) : TyI := ⟨.array 512 239, [], 8192, 8192, .agg ⟨DS⟩, false⟩
abbrev Tryz.tyDev (DT : List Value) : TyI := ⟨.struct #[], [(0, 128), (1, 240), (8193, 241), (8194, 3), (8195, 242)], 8196, 8256, .agg ⟨.slice none 0 0 :: DT⟩, false⟩
theorem Tryz.tySec_ex : ∃ DS, TyOk Tryz.prog 240 (Tryz.tySec DS) := by
  obtain ⟨a, ha, hs⟩ : ∃ a : Array Value, Tryz.t240.zero = some (.agg a) ∧ a.size = 8192 := ⟨_, rfl, by simp only [List.size_toArray, List.append_eq, List.length_append, List.length_cons, List.length_nil]⟩
  refine ⟨a.toList, by kernel_rfl, ?_, ?_, by kernel_rfl⟩
  · show some (8192, 8192, Tryz.t240.zero) = _
    rw [ha]
  · exact hs
theorem Tryz.tyDev_ex : ∃ DT, TyOk Tryz.prog 244 (Tryz.tyDev DT) := by
  obtain ⟨a, ha, hh, hs⟩ : ∃ a : Array Value, Tryz.t244.zero = some (.agg a) ∧ a.toList.head? = some (.slice none 0 0) ∧ a.size = 8196 := ⟨_, rfl, by kernel_rfl, by simp only [List.size_toArray, List.append_eq, List.length_append, List.length_cons, List.length_nil]⟩
  have e := head_tail hh
  have ea : a = ⟨.slice none 0 0 :: a.toList.tail⟩ := by
    obtain ⟨l⟩ := a
    exact congrArg Array.mk e
  refine ⟨a.toList.tail, by kernel_rfl, ?_, ?_, by kernel_rfl⟩
  · show some (8196, 8256, Tryz.t244.zero) = _
    rw [ha]
    exact congrArg (fun z => some (8196, 8256, some (Value.agg z))) ea
  · show (⟨.slice none 0 0 :: a.toList.tail⟩ : Array Value).size = 8196
    exact (congrArg Array.size ea).symm.trans hs
/-- the seat's types, with the two great ones -/
def Tryz.tysD (DS DT : List Value) : Tys := (Tryz.tys.set 240 (some (Tryz.tySec DS))).set 244 (some (Tryz.tyDev DT))
theorem Tryz.tysD_ex : ∃ DS DT, TysOk Tryz.prog (Tryz.tysD DS DT) := by
  obtain ⟨DS, hs⟩ := Tryz.tySec_ex
  obtain ⟨DT, ht⟩ := Tryz.tyDev_ex
  exact ⟨DS, DT, tysOk_set (tysOk_set Tryz.tysOk hs) ht⟩
end Go.Proofs
