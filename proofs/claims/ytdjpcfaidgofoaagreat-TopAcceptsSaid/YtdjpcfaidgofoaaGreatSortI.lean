/- The ordered sort of numbers, of the kit's shelf, over assertions. -/
import Derived.Test.YtdjpcfaidgofoaaGreatSpanI
import Derived.Test.YtdjpcfaidgofoaaGreatConfF
import Derived.Test.YtdjpcfaidgofoaaGreatRegion
import Derived.Shelf.Sort.Plain
import Derived.Test.YtdjpcfaidgofoaaGreatEngMore
import Derived.Test.YtdjpcfaidgofoaaGreatTys
set_option linter.all false
namespace Go.Proofs
open Go.Eng
open Classical
set_option linter.unusedVariables false
set_option maxRecDepth 100000
set_option maxHeartbeats 2000000
/-- an empty queue of a limit -/
abbrev qC (n : Int) : List Value := [.slice none 0 0, n64 0, n64 0, n64 n, n64 0]
theorem fmm {n : Int} (h : 0 ≤ n ∧ n ≤ 65536) : min (max n 0) 65536 = n := by omega
theorem Tryz.fifoNewB (n : Int) (L : List HP) (h : 0 ≤ n ∧ n ≤ 16) : Con Tryz.prog 118 [n64 n] L (Exs pV (fun b => ptc b 305 (qC n) :: L) (fun _ => True)) := by
  have e : min (max n 0) 65536 = n := fmm ⟨h.1, by omega⟩
  suffices hh : Con Tryz.prog 118 [n64 n] L (Exs pV (fun b => ptc b 305 (qC (min (max n 0) 65536)) :: L) (fun _ => True)) by rwa [e] at hh
  refine con_of Tryz.tysOk Tryz.func118 rfl rfl ?_
  conv => whnf
  repeat' ((with_reducible refine Nc.go' (fun _ => ?_)); conv => whnf)
  all_goals exact Exs.of _ (by (exact Ent.rfl)) trivial rfl
theorem Tryz.fifoNewF (n : Int) (L : List HP) (h : 0 ≤ n ∧ n ≤ 16) : Con Tryz.prog 121 [n64 n] L (Exs pV (fun b => ptc b 308 (qC n) :: L) (fun _ => True)) := by
  have e : min (max n 0) 65536 = n := fmm ⟨h.1, by omega⟩
  suffices hh : Con Tryz.prog 121 [n64 n] L (Exs pV (fun b => ptc b 308 (qC (min (max n 0) 65536)) :: L) (fun _ => True)) by rwa [e] at hh
  refine con_of Tryz.tysOk Tryz.func121 rfl rfl ?_
  conv => whnf
  repeat' ((with_reducible refine Nc.go' (fun _ => ?_)); conv => whnf)
  all_goals exact Exs.of _ (by (exact Ent.rfl)) trivial rfl
theorem Tryz.fifoNewI (n : Int) (L : List HP) (h : 0 ≤ n ∧ n ≤ 16) : Con Tryz.prog 133 [n64 n] L (Exs pV (fun b => ptc b 314 (qC n) :: L) (fun _ => True)) := by
  have e : min (max n 0) 65536 = n := fmm ⟨h.1, by omega⟩
  suffices hh : Con Tryz.prog 133 [n64 n] L (Exs pV (fun b => ptc b 314 (qC (min (max n 0) 65536)) :: L) (fun _ => True)) by rwa [e] at hh
  refine con_of Tryz.tysOk Tryz.func133 rfl rfl ?_
  conv => whnf
  repeat' ((with_reducible refine Nc.go' (fun _ => ?_)); conv => whnf)
  all_goals exact Exs.of _ (by (exact Ent.rfl)) trivial rfl
/-- a queue of requests: its block, its waiting ones' block, its limit -/
abbrev Qu := Nat × Nat × Int
def Tryz.quH (y : Qu) : HP := star (ptc y.1 275 [pV y.2.1, .slice none 0 0]) (ptc y.2.1 314 (qC y.2.2))
theorem Tryz.queNew (n : Int) (L : List HP) (h : 0 ≤ n ∧ n ≤ 16) : Con Tryz.prog 70 [n64 n] L (Exs (fun y : Nat × Nat => pV y.1) (fun y => Tryz.quH (y.1, y.2, n) :: L) (fun _ => True)) := by
  have e : min n 16 = n := by omega
  have hf := fun L => Tryz.fifoNewI (min n 16) L ⟨by omega, by omega⟩
  suffices hh : Con Tryz.prog 70 [n64 n] L (Exs (fun y : Nat × Nat => pV y.1) (fun y => Tryz.quH (y.1, y.2, min n 16) :: L) (fun _ => True)) by rwa [e] at hh
  clear e
  refine con_of Tryz.tysOk Tryz.func70 rfl rfl ?_
  conv => whnf
  repeat' (first
    | ((with_reducible refine Nc.go' (fun _ => ?_)); conv => whnf)
    | ((with_reducible refine Cl.exs (hf _) (fun f _ => ?_)); conv => whnf))
  all_goals (rename_i b; exact Exs.of (b, f) (by (refine FEnt.ent ?_; (repeat (first | exact FEnt.rfl | refine FEnt.star ?_)); done)) trivial rfl)
theorem Tryz.uaMay (o c l : Int) (L : List HP) : Con Tryz.prog 116 [slV o c l] L (Is (.bool (decide (1 ≤ o ∧ o ≤ 8 ∧ 0 ≤ c ∧ c ≤ 255 ∧ 0 ≤ l ∧ l ≤ 16))) L) := by
  refine con_of Tryz.tysOk Tryz.func116 rfl rfl ?_
  conv => whnf
  repeat' (first
    | (first | ((with_reducible refine Br.tt ?_); conv => whnf) | ((with_reducible refine Br.ff ?_); conv => whnf))
    | ((with_reducible refine Nc.go' (fun _ => ?_)); conv => whnf)
    | (refine Ld.at 0 rfl rfl ?_; conv => whnf)
    | ((with_reducible refine Br.ds (fun _ => ?_) (fun _ => ?_) ) <;> (conv => whnf)))
  all_goals (refine Is.ent ?_ ?_; (focus (refine FEnt.ent ?_; (repeat (first | exact FEnt.rfl | refine FEnt.drop ?_)); done)); (first | exact Is.ff (by omega) | (refine Is.dec ?_; omega)))
theorem Tryz.niMay (o c l : Int) (L : List HP) : Con Tryz.prog 119 [slV o c l] L (Is (.bool (decide (1 ≤ o ∧ o ≤ 8 ∧ 0 ≤ c ∧ c ≤ 255 ∧ 0 ≤ l ∧ l ≤ 16))) L) := by
  refine con_of Tryz.tysOk Tryz.func119 rfl rfl ?_
  conv => whnf
  repeat' (first
    | (first | ((with_reducible refine Br.tt ?_); conv => whnf) | ((with_reducible refine Br.ff ?_); conv => whnf))
    | ((with_reducible refine Nc.go' (fun _ => ?_)); conv => whnf)
    | (refine Ld.at 0 rfl rfl ?_; conv => whnf)
    | ((with_reducible refine Br.ds (fun _ => ?_) (fun _ => ?_) ) <;> (conv => whnf)))
  all_goals (refine Is.ent ?_ ?_; (focus (refine FEnt.ent ?_; (repeat (first | exact FEnt.rfl | refine FEnt.drop ?_)); done)); (first | exact Is.ff (by omega) | (refine Is.dec ?_; omega)))
theorem Tryz.dkMay (o f c : Int) (L : List HP) : Con Tryz.prog 122 [slV o f c] L (Is (.bool (decide (1 ≤ o ∧ o ≤ 8 ∧ 0 ≤ c ∧ c ≤ 64 ∧ 0 ≤ f ∧ f ≤ 512 - c))) L) := by
  refine con_of Tryz.tysOk Tryz.func122 rfl rfl ?_
  conv => whnf
  repeat' (first
    | (first | ((with_reducible refine Br.tt ?_); conv => whnf) | ((with_reducible refine Br.ff ?_); conv => whnf))
    | ((with_reducible refine Ar.i64 ?_ ?_); (focus omega); conv => whnf)
    | ((with_reducible refine Nc.go' (fun _ => ?_)); conv => whnf)
    | (refine Ld.at 0 rfl rfl ?_; conv => whnf)
    | ((with_reducible refine Br.ds (fun _ => ?_) (fun _ => ?_) ) <;> (conv => whnf)))
  all_goals (refine Is.ent ?_ ?_; (focus (refine FEnt.ent ?_; (repeat (first | exact FEnt.rfl | refine FEnt.drop ?_)); done)); (first | exact Is.ff (by omega) | (refine Is.dec ?_; omega)))
/-- a board: its first owner's bits, and how many owners there are -/
abbrev brdC (la de n : Int) : List Value := [n64 la, n64 de, n64 0, n64 0, n64 0, n64 0, n64 0, n64 0, n64 0, n64 0, n64 0, n64 0, n64 0, n64 0, n64 0, n64 0, n64 n]
theorem Tryz.brdNew (n : Int) (L : List HP) (h : 0 ≤ n ∧ n ≤ 8) : Con Tryz.prog 26 [n64 n] L (Exs pV (fun b => ptc b 176 (brdC 0 0 n) :: L) (fun _ => True)) := by
  have e : min (max n 0) 8 = n := by omega
  suffices hh : Con Tryz.prog 26 [n64 n] L (Exs pV (fun b => ptc b 176 (brdC 0 0 (min (max n 0) 8)) :: L) (fun _ => True)) by rwa [e] at hh
  refine con_of Tryz.tysOk Tryz.func26 rfl rfl ?_
  conv => whnf
  repeat' ((with_reducible refine Nc.go' (fun _ => ?_)); conv => whnf)
  all_goals exact Exs.of _ (by (exact Ent.rfl)) trivial rfl
theorem Tryz.dmaNew (bm bt : Nat) (L : List HP) : Con Tryz.prog 67 [pV bm, pV bt] L (Exs pV (fun _ => L) (fun _ => True)) := by
  refine con_of Tryz.tysOk Tryz.func67 rfl rfl ?_
  conv => whnf
  repeat' ((with_reducible refine Nc.go' (fun _ => ?_)); conv => whnf)
  all_goals exact Exs.of _ (by (refine FEnt.ent ?_; (repeat (first | exact FEnt.rfl | refine FEnt.drop ?_)); done)) trivial rfl
/-! rows -/
def rgnF (C : Cfg) (i : Nat) : Rg := ((i : Int) + 1, (cX C i).b, (cX C i).z)
theorem Tryz.confRegions (C : Cfg) (L : List HP) (hl : C.xs.length ≤ 8) (hr : Rd clE L C.ca C.xs) :
    Con Tryz.prog 66 [cfV C] L (New rgE 254 (rowsF (rgnF C) C.xs.length) L) := by
  refine con_of Tryz.tysOk Tryz.func66 rfl rfl ?_
  conv => whnf
  repeat' (first
    | ((with_reducible refine Nc.go' (fun _ => ?_)); conv => whnf)
    | (refine Ld.at 0 rfl rfl ?_; conv => whnf))
  rename_i b1
  conv => whnf
  refine Lp.by2 Tryz.tysOk [9, 3] (fun (k : Nat) (x : Option Addr × Nat × List Rg) => [.int .i64 k, .slice x.1 x.2.2.length x.2.1]) (fun k x => ptc b1 28 (cfC C) :: own rgE 254 x.1 x.2.1 x.2.2 :: L) (fun k x => k ≤ C.xs.length ∧ x.2.2 = rowsF (rgnF C) k ∧ x.2.2.length ≤ x.2.1 ∧ Ad x.1 x.2.2.length) (fun k x => C.xs.length - k) (0) (((none, 0, []) : Option Addr × Nat × List Rg)) (by kernel_rfl) (by (refine FEnt.ent ?_; (repeat (first | exact FEnt.rfl | (refine FEnt.at 0 rfl ?_; (try simp only [List.eraseIdx_cons_zero, List.eraseIdx_cons_succ, List.eraseIdx_zero, List.tail_cons])) | refine FEnt.nil ?_)); done)) (⟨by omega, rfl, Nat.le_refl _, fun h => (h rfl).elim⟩) ?_
  rintro k ⟨a2, c2, ys⟩ ⟨h1, h2, h3, h4⟩
  conv => whnf
  repeat (intro _; conv => whnf)
  dsimp only at h2 h3 h4
  by_cases hk : k < C.xs.length
  · have hyl : ys.length = k := by rw [h2, rowsF_len]
    have hsn := rowsF_succ (rgnF C) k
    rw [← h2] at hsn
    clear h2
    conv => whnf
    repeat' (first
      | ((with_reducible refine Br.dt ?_ ?_); (focus (first | assumption | omega)); conv => whnf)
      | ((with_reducible refine Ar.i64 ?_ ?_); (focus omega); conv => whnf)
      | ((with_reducible refine Nd.mk ?_ ?_); (focus (first | omega | rfl | assumption | (simp; done))); conv => whnf)
      | ((with_reducible refine Nc.go' (fun _ => ?_)); conv => whnf)
      | ((with_reducible refine Ix.ad ?_ ?_ ?_); (focus (exact Rd.ad (by assumption))); (focus (omega)); conv => whnf)
      | (refine Ld.at 0 rfl rfl ?_; conv => whnf)
      | ((with_reducible apply LdN.rdk); (focus ((repeat (first | assumption | apply Rd.cons)); done)); (focus rfl); (focus rfl); (focus (omega)); conv => whnf)
      | (refine St.at 0 rfl (by first | exact Nat.le_of_ble_eq_true rfl | (simp; done)) rfl ?_; conv => whnf)
      | ((with_reducible refine (?_ : Sm _ (Builtin.append_ _ _ _) _ _)); (((with_reducible apply (Sm.appAt (E := rgE) (et := 254) Tryz.tysOk 3)); (focus rfl)); (rotate_left; (focus (exact Rd.ptc 0 rfl [(_, _, _)] rfl)); rotate_right; (focus rfl)); (focus rfl); (focus rfl); (focus rfl); (focus rfl); (focus rfl); (focus rfl); (focus ((simp only [List.length_append, List.length_cons, List.length_nil]); omega)); (intro _ _ _ _); conv => whnf)))
    all_goals (rename_i a3 c3 hc3 had3; exact ⟨k + 1, (a3, c3, ys ++ [((k : Int) + 1, (C.xs.getD k clE.d).b, (C.xs.getD k clE.d).z)]), by kernel_rfl, by (refine FEnt.ent ?_; (repeat (first | exact FEnt.rfl | (refine FEnt.at 0 rfl ?_; (try simp only [List.eraseIdx_cons_zero, List.eraseIdx_cons_succ, List.eraseIdx_zero, List.tail_cons])) | (refine FEnt.at 3 rfl ?_; (try simp only [List.eraseIdx_cons_zero, List.eraseIdx_cons_succ, List.eraseIdx_zero, List.tail_cons])) | refine FEnt.drop ?_)); done), ⟨by omega, hsn.symm, hc3, had3⟩, by omega⟩)
  · have e : k = C.xs.length := by omega
    subst e
    rw [← h2]
    conv => whnf
    repeat' ((with_reducible refine Br.df ?_ ?_); (focus (first | assumption | omega)); conv => whnf)
    all_goals exact New.of rfl h3 h4 (by (refine FEnt.ent ?_; (repeat (first | exact FEnt.rfl | (refine FEnt.at 1 rfl ?_; (try simp only [List.eraseIdx_cons_zero, List.eraseIdx_cons_succ, List.eraseIdx_zero, List.tail_cons])) | refine FEnt.drop ?_)); done))
end Go.Proofs
set_option linter.all false
namespace Go.Proofs
open Go.Eng
open Classical
set_option linter.unusedVariables false
set_option maxRecDepth 100000
set_option maxHeartbeats 2000000
theorem at_app {β : Type} {M L : List β} {i : Nat} {A : β} (h : L[i]? = some A) : (M ++ L)[M.length + i]? = some A := by
  rw [List.getElem?_append_right (by omega), Nat.add_sub_cancel_left]; exact h
theorem getD_lt {α : Type} {xs ys : List α} {d : α} {i : Nat} (h : i < xs.length) : (xs ++ ys).getD i d = xs.getD i d := by
  simp [List.getD, List.getElem?_append_left h]
theorem getD_eqn {α : Type} {xs : List α} {x d : α} {k : Nat} (h : xs.length = k) : (xs ++ [x]).getD k d = x := by
  subst h; simp [List.getD]
theorem get_of {α : Type} {xs : List α} {d : α} {i : Nat} (h : i < xs.length) : xs[i]? = some (xs.getD i d) := by simp [List.getD, h]
/-- a line: its block, its queue's, its owner, its channel, its limit -/
abbrev Ln := Nat × Nat × Slt
def lnD : Ln := (0, 0, 0, 0, 0)
abbrev lnC (y : Ln) : List Value := [n64 y.2.2.1, n64 y.2.2.2.1, n64 y.2.2.2.2, pV y.2.1, n64 0]
def Tryz.lnH (y : Ln) : HP := star (ptc y.1 225 (lnC y)) (ptc y.2.1 305 (qC y.2.2.2.2))
abbrev kvL (y : Ln) : Value × Value := (n64 y.2.2.1, pV y.1)
theorem kvl_at {ys : List Ln} {k : Nat} (h : k < ys.length) (ho : (ys.getD k lnD).2.2.1 = (k : Int) + 1) : (ys.map kvL)[k]? = some (n64 ((k : Int) + 1), pV (ys.getD k lnD).1) := by
  rw [List.getElem?_map, get_of (d := lnD) h, Option.map_some, ← ho]
theorem kvl_no {ys : List Ln} {o : Int} (h : ∀ i, i < ys.length → (ys.getD i lnD).2.2.1 ≠ o) : ∀ p ∈ ys.map kvL, p.1 ≠ n64 o := by
  intro p hp
  obtain ⟨r, hr, rfl⟩ := List.mem_map.1 hp
  obtain ⟨i, hi, rfl⟩ := List.getElem_of_mem hr
  have := h i hi
  intro he
  simp only [Value.int.injEq, true_and] at he
  exact this (by simpa [List.getD, hi] using he)
theorem Tryz.uaOwnNo (b m : Nat) (ys : List Ln) (ch : Int) (L : List HP) (h8 : ys.length ≤ 8) (hk : ∀ i, i < ys.length → (ys.getD i lnD).2.2.1 = (i : Int) + 1) (hno : ∀ i, i < ys.length → ¬ (ys.getD i lnD).2.2.2.1 = ch)
    (q0 : ∃ i : Nat, L[i]? = some (ptc b 219 [.map (some m), .slice none 0 0])) (q1 : ∃ i : Nat, L[i]? = some (mapH m (.int .i64) (ys.map kvL))) (q2 : ∃ i : Nat, L[i]? = some (bigH Tryz.lnH ys)) :
    Con Tryz.prog 117 [pV b, n64 ch] L (Is (n64 0) L) := by
  obtain ⟨i0, q0⟩ := q0
  obtain ⟨i1, q1⟩ := q1
  obtain ⟨i2, q2⟩ := q2
  refine con_of Tryz.tysOk Tryz.func117 rfl rfl ?_
  conv => whnf
  repeat' ((with_reducible refine Br.nsn ?_); conv => whnf)
  conv => whnf
  refine Lp.by Tryz.tysOk [9] (fun (k : Nat) => [.int .i64 k]) (fun k => L) (fun k => k ≤ 9) (fun k => 9 - k) (0) (by kernel_rfl) (by (exact Ent.rfl)) ((by omega)) ?_
  rintro k h1
  conv => whnf
  repeat (intro _; conv => whnf)
  by_cases hk9 : k < 9
  · by_cases hin : 1 ≤ k ∧ k ≤ ys.length
    · have hlt : k - 1 < ys.length := by omega
      have ho := hk (k - 1) hlt
      have e : ((k - 1 : Nat) : Int) + 1 = (k : Int) := by omega
      have hj := kvl_at hlt ho
      rw [e] at hj
      have hy := get_of (d := lnD) hlt
      have hne := hno (k - 1) hlt
      generalize ys.getD (k - 1) lnD = y at *
      generalize ys.map kvL = es at *
      obtain ⟨y1, y2, y3, y4, y5⟩ := y
      dsimp only at hne hj
      conv => whnf
      repeat' (first
        | (first | ((with_reducible refine Br.tt ?_); conv => whnf) | ((with_reducible refine Br.nsn ?_); conv => whnf) | ((with_reducible refine Br.dt ?_ ?_); (focus (first | assumption | omega)); conv => whnf) | ((with_reducible refine Br.df ?_ ?_); (focus (first | assumption | omega)); conv => whnf))
        | ((with_reducible refine Ar.i64 ?_ ?_); (focus omega); conv => whnf)
        | ((refine Ld.at i0 q0 rfl ?_); conv => whnf)
        | ((refine Sm.lkYes Tryz.tysOk i1 q1 rfl rfl rfl rfl (by first | exact rfl | exact trivial) _ hj ?_); conv => whnf)
        | ((refine Ld.big i2 q2 hy (star_cell rfl) ?_); conv => whnf))
      all_goals first | (exfalso; omega) | exact ⟨k + 1, by kernel_rfl, by (exact Ent.rfl), by omega, by omega⟩
    · have hj : ∀ p ∈ ys.map kvL, p.1 ≠ n64 (k : Int) := kvl_no fun i hi => by have := hk i hi; omega
      generalize ys.map kvL = es at *
      conv => whnf
      repeat' (first
        | (first | ((with_reducible refine Br.ff ?_); conv => whnf) | ((with_reducible refine Br.nnn ?_); conv => whnf) | ((with_reducible refine Br.dt ?_ ?_); (focus (first | assumption | omega)); conv => whnf))
        | ((with_reducible refine Ar.i64 ?_ ?_); (focus omega); conv => whnf)
        | ((refine Ld.at i0 q0 rfl ?_); conv => whnf)
        | ((refine Sm.lkNo Tryz.tysOk i1 q1 rfl rfl rfl rfl rfl (by first | exact rfl | exact trivial) hj ?_); conv => whnf))
      all_goals first | (exfalso; omega) | exact ⟨k + 1, by kernel_rfl, by (exact Ent.rfl), by omega, by omega⟩
  · conv => whnf
    repeat' ((with_reducible refine Br.df ?_ ?_); (focus (first | assumption | omega)); conv => whnf)
    all_goals (refine Is.ent ?_ ?_; (focus (exact Ent.rfl)); (exact Is.rfl))
/-- rows of channels that are right -/
def lnOk (xs : List Slt) : Prop := ∀ i, i < xs.length → (xs.getD i slE.d).1 = (i : Int) + 1 ∧ 0 ≤ (xs.getD i slE.d).2.1 ∧ (xs.getD i slE.d).2.1 ≤ 255 ∧ 0 ≤ (xs.getD i slE.d).2.2 ∧ (xs.getD i slE.d).2.2 ≤ 16 ∧ ∀ j, j < i → ¬ (xs.getD j slE.d).2.1 = (xs.getD i slE.d).2.1
theorem Tryz.uaNew (a : Option Addr) (c : Nat) (xs : List Slt) (L : List HP) (hl : xs.length ≤ 8) (h : lnOk xs) (hr : Rd slE L a xs) :
    Con Tryz.prog 62 [.slice a xs.length c] L (Exs (fun y : Nat × Nat × List Ln => .tuple #[pV y.1, n64 0]) (fun y => ptc y.1 219 [.map (some y.2.1), .slice none 0 0] :: mapH y.2.1 (.int .i64) (y.2.2.map kvL) :: bigH Tryz.lnH y.2.2 :: L)
      (fun y => y.2.2.length = xs.length ∧ ∀ i, i < xs.length → (y.2.2.getD i lnD).2.2 = xs.getD i slE.d)) := by
  refine con_of Tryz.tysOk Tryz.func62 rfl rfl ?_
  conv => whnf
  repeat' (first
    | ((with_reducible refine Nc.go' (fun _ => ?_)); conv => whnf)
    | ((with_reducible refine Nw.map (.int .i64) (fun _ => ?_)); conv => whnf))
  rename_i bm bt
  conv => whnf
  refine Lp.by2 Tryz.tysOk [12] (fun (k : Nat) (ys : List Ln) => [.int .i64 k]) (fun k ys => ptc bt 219 [.map (some bm), .slice none 0 0] :: mapH bm (.int .i64) (ys.map kvL) :: bigH Tryz.lnH ys :: L) (fun k ys => k ≤ xs.length ∧ ys.length = k ∧ ∀ i, i < k → (ys.getD i lnD).2.2 = xs.getD i slE.d) (fun k ys => xs.length - k) (0) (([] : List Ln)) (by kernel_rfl) (by (refine FEnt.ent ?_; (repeat (first | exact FEnt.rfl | (refine FEnt.at 0 rfl ?_; (try simp only [List.eraseIdx_cons_zero, List.eraseIdx_cons_succ, List.eraseIdx_zero, List.tail_cons])) | (apply FEnt.big0))); done)) (⟨by omega, rfl, fun i h => by omega⟩) ?_
  rintro k ys ⟨h1, h2, h3⟩
  conv => whnf
  repeat (intro _; conv => whnf)
  by_cases hk : k < xs.length
  · obtain ⟨g1, g2, g3, g4, g5, g6⟩ := h k hk
    have hm : 1 ≤ (xs.getD k slE.d).1 ∧ (xs.getD k slE.d).1 ≤ 8 ∧ 0 ≤ (xs.getD k slE.d).2.1 ∧ (xs.getD k slE.d).2.1 ≤ 255 ∧ 0 ≤ (xs.getD k slE.d).2.2 ∧ (xs.getD k slE.d).2.2 ≤ 16 := by omega
    have hno : ∀ p ∈ ys.map kvL, p.1 ≠ n64 (xs.getD k slE.d).1 := kvl_no fun i hi => by
      rw [h3 i (by omega), (h i (by omega)).1]; omega
    have how : ∀ i, i < ys.length → (ys.getD i lnD).2.2.1 = (i : Int) + 1 := fun i hi => by rw [h3 i (by omega)]; exact (h i (by omega)).1
    have hch : ∀ i, i < ys.length → ¬ (ys.getD i lnD).2.2.2.1 = (xs.getD k slE.d).2.1 := fun i hi => by rw [h3 i (by omega)]; exact g6 i (by omega)
    have hf : ∀ L, Con Tryz.prog 118 [n64 (xs.getD k slE.d).2.2] L (Exs pV (fun b => [ptc b 305 (qC (xs.getD k slE.d).2.2)] ++ L) (fun _ => True)) := fun L => Tryz.fifoNewB (xs.getD k slE.d).2.2 L ⟨g4, g5⟩
    have hmap : ∀ u : Ln, (ys ++ [u]).map kvL = ys.map kvL ++ [kvL u] := fun u => by rw [List.map_append]; rfl
    conv => whnf
    repeat' (first
      | (first | ((with_reducible refine Br.ff ?_); conv => whnf) | ((with_reducible refine Br.nt ?_); conv => whnf) | ((with_reducible refine Br.nnn ?_); conv => whnf) | ((with_reducible refine Br.dt ?_ ?_); (focus (first | assumption | omega)); conv => whnf) | ((with_reducible refine Br.ndf ?_ ?_); (focus (first | assumption | omega)); conv => whnf))
      | ((with_reducible refine Ar.i64 ?_ ?_); (focus omega); conv => whnf)
      | ((with_reducible refine Nd.mk ?_ ?_); (focus (first | omega | rfl | assumption | (simp; done))); conv => whnf)
      | ((with_reducible refine Nc.go' (fun _ => ?_)); conv => whnf)
      | ((with_reducible refine Ix.ad ?_ ?_ ?_); (focus (exact Rd.ad (by assumption))); (focus (omega)); conv => whnf)
      | (first | (refine Ld.at 0 rfl rfl ?_; conv => whnf) | (refine Ld.at 1 rfl rfl ?_; conv => whnf))
      | (first | ((with_reducible apply LdN.rdk); (focus ((repeat (first | assumption | apply Rd.cons)); done)); (focus rfl); (focus rfl); (focus (omega)); conv => whnf) | (refine LdN.at 0 rfl (by first | exact Nat.le_of_ble_eq_true rfl | (simp; done)) ?_; conv => whnf))
      | (refine St.at 0 rfl (by first | exact Nat.le_of_ble_eq_true rfl | (simp; done)) rfl ?_; conv => whnf)
      | ((with_reducible refine Dr.by (id := 7) Tryz.tysOk rfl [(0, 0), (1, 0), (2, 0), (4, 0), (3, 1), (5, 1), (6, 1), (7, 0), (8, 0), (9, 0), (10, 0), (11, 1), (12, 1), (13, 0), (14, 0), (15, 0)] ?_ ?_); (focus kernel_rfl); conv => whnf)
      | ((with_reducible refine Dr.by (id := 9) Tryz.tysOk rfl [(0, 0), (1, 0), (2, 0), (4, 0), (7, 0), (3, 1), (5, 1), (6, 1), (8, 1), (9, 4), (10, 0), (11, 2), (12, 3)] ?_ ?_); (focus kernel_rfl); conv => whnf)
      | ((with_reducible refine (?_ : SR _ (Instr.lookup _ _ _ _) _ _)); (refine SR.lkNo Tryz.tysOk 2 rfl rfl rfl rfl rfl rfl (by first | exact rfl | exact trivial) (hno) ?_; conv => whnf))
      | ((with_reducible refine (?_ : Sm _ (Instr.mapUpdate _ _ _ _ >>= _) _ _)); (refine Sm.putNew Tryz.tysOk 4 rfl rfl rfl rfl rfl (by first | exact rfl | exact trivial) (hno) ?_; conv => whnf))
      | ((with_reducible refine (?_ : CD _ 117 _ _ _)); (refine CD.is (fun M => Tryz.uaOwnNo bt bm ys _ _ (by omega) how hch ⟨_, at_app (i := 1) rfl⟩ ⟨_, at_app (i := 2) rfl⟩ ⟨_, at_app (i := 3) rfl⟩) ?_); conv => whnf)
      | ((with_reducible refine CN.exs (fun M => hf _) (fun f _ => ?_)); conv => whnf)
      | ((with_reducible refine Cl.is (Con.dt hm (Tryz.uaMay _ _ _ _)) ?_); conv => whnf))
    all_goals try (exfalso; omega)
    all_goals
      rename_i bln
      exact ⟨k + 1, ys ++ [((bln, f, xs.getD k slE.d) : Ln)], by kernel_rfl, by (try dsimp only); rw [hmap]; (refine FEnt.ent ?_; (repeat (first | exact FEnt.rfl | (refine FEnt.at 0 rfl ?_; (try simp only [List.eraseIdx_cons_zero, List.eraseIdx_cons_succ, List.eraseIdx_zero, List.tail_cons])) | (refine FEnt.at 1 rfl ?_; (try simp only [List.eraseIdx_cons_zero, List.eraseIdx_cons_succ, List.eraseIdx_zero, List.tail_cons])) | (refine FEnt.at 3 rfl ?_; (try simp only [List.eraseIdx_cons_zero, List.eraseIdx_cons_succ, List.eraseIdx_zero, List.tail_cons])) | (apply FEnt.bigS) | refine FEnt.star ?_ | refine FEnt.drop ?_)); done), ⟨by omega, by rw [List.length_append, h2]; rfl, fun i hi => by
        by_cases e : i = k
        · subst e; rw [getD_eqn h2]
        · rw [getD_lt (by omega)]; exact h3 i (by omega)⟩, by omega⟩
  · have e : k = xs.length := by omega
    subst e
    conv => whnf
    repeat' ((with_reducible refine Br.df ?_ ?_); (focus (first | assumption | omega)); conv => whnf)
    all_goals exact Exs.of (bt, bm, ys) (by (try dsimp only); (exact Ent.rfl)) ⟨h2, h3⟩ rfl
end Go.Proofs
set_option linter.all false
namespace Go.Proofs
open Go.Eng
open Classical
set_option linter.unusedVariables false
def linF (C : Cfg) (i : Nat) : Slt := ((i : Int) + 1, (cX C i).h, (cX C i).u)
def prtF (C : Cfg) (i : Nat) : Slt := ((i : Int) + 1, (cX C i).m, (cX C i).u)
def dskF (C : Cfg) (i : Nat) : Slt := ((i : Int) + 1, (cX C i).f, (cX C i).s)
/-- rows of sectors that are right -/
def dkOk (xs : List Slt) : Prop := ∀ i, i < xs.length → (xs.getD i slE.d).1 = (i : Int) + 1 ∧ 0 ≤ (xs.getD i slE.d).2.2 ∧ (xs.getD i slE.d).2.2 ≤ 64 ∧ 0 ≤ (xs.getD i slE.d).2.1 ∧ (xs.getD i slE.d).2.1 ≤ 512 - (xs.getD i slE.d).2.2 ∧
  ∀ j, j < i → ¬ meetS (xs.getD i slE.d).2.1 ((xs.getD i slE.d).2.1 + (xs.getD i slE.d).2.2) (xs.getD j slE.d).2.1 ((xs.getD j slE.d).2.1 + (xs.getD j slE.d).2.2)
theorem right_good {C : Cfg} (h : Right C) {i : Nat} (hi : i < C.xs.length) : goodC (cX C i) := Classical.byContradiction fun hn => h.r2 i hi hn
theorem right_same {C : Cfg} (h : Right C) {i j : Nat} (hi : i < C.xs.length) (hj : j < i) : ¬ sameC (cX C i) (cX C j) := fun hs => h.r3 i hi ⟨right_good h hi, j, hj, right_good h (by omega), hs⟩
theorem right_lines {C : Cfg} (h : Right C) : lnOk (rowsF (linF C) C.xs.length) := fun i hi => by
  rw [rowsF_len] at hi
  have hg := right_good h hi
  rw [rowsF_getD _ _ hi]
  refine ⟨rfl, hg.2.2.2.1.2.2.1, hg.2.2.2.1.2.2.2, hg.2.2.1.2.2.1, hg.2.2.1.2.2.2, fun j hj hs => ?_⟩
  rw [rowsF_getD _ _ (by omega)] at hs
  exact right_same h hi hj (.inr (.inl hs.symm))
theorem right_ports {C : Cfg} (h : Right C) : lnOk (rowsF (prtF C) C.xs.length) := fun i hi => by
  rw [rowsF_len] at hi
  have hg := right_good h hi
  rw [rowsF_getD _ _ hi]
  refine ⟨rfl, hg.2.2.2.1.1, hg.2.2.2.1.2.1, hg.2.2.1.2.2.1, hg.2.2.1.2.2.2, fun j hj hs => ?_⟩
  rw [rowsF_getD _ _ (by omega)] at hs
  exact right_same h hi hj (.inl hs.symm)
theorem right_sectors {C : Cfg} (h : Right C) : dkOk (rowsF (dskF C) C.xs.length) := fun i hi => by
  rw [rowsF_len] at hi
  have hg := right_good h hi
  rw [rowsF_getD _ _ hi]
  refine ⟨rfl, hg.2.2.2.2.1, hg.2.2.2.2.2.1, hg.2.2.2.2.2.2.1, hg.2.2.2.2.2.2.2, fun j hj hs => ?_⟩
  rw [rowsF_getD _ _ (by omega)] at hs
  exact right_same h hi hj (.inr (.inr (.inr hs)))
theorem right_regions {C : Cfg} (h : Right C) : rgOk (rowsF (rgnF C) C.xs.length) (rowsF (rgnF C) C.xs.length).length := fun i hi => by
  rw [rowsF_len] at hi
  have hg := right_good h hi
  have hf := h.f
  rw [rowsF_getD _ _ hi]
  refine ⟨⟨by show 1 ≤ (i : Int) + 1; omega, by show (i : Int) + 1 ≤ 8; omega, hg.1.2.2.1, by have := hg.1; show (cX C i).b < 16384; omega, by have := hg.1; show 1 ≤ (cX C i).z; omega, by have := hg.1; show (cX C i).z ≤ 16384 - (cX C i).b; omega⟩, fun j hj => ?_⟩
  rw [rowsF_getD _ _ (by omega)]
  refine ⟨by show ¬ ((j : Int) + 1 = (i : Int) + 1); omega, fun hm => right_same h hi hj (.inr (.inr (.inl ?_)))⟩
  simp only [meetP, plS, rgnF, meetS, isS] at hm
  simp only [meetS, isS]
  omega
theorem right_slots {C : Cfg} (h : Right C) : slOk C.F C.ss C.ss.length := fun i hi => by
  have h8 : goodS C (cS C i) := Classical.byContradiction fun hn => h.r8 i hi hn
  have hf := h.f
  have a1 := h8.1
  have a2 := h8.2.1
  simp only [cS] at a1 a2
  refine ⟨⟨a1.1, by have := a1.2; omega, a2.1.1, a2.1.2, a2.2⟩, fun j hj hm => h.r9 i hi ⟨j, hj, ?_⟩⟩
  simp only [meetP, slP, meetS, isS] at hm
  simp only [meetW, meetS, isS, cS]
  omega
end Go.Proofs

set_option linter.all false
namespace Go.Eng
open Go.Sort Go.RowKit
theorem Sat.grow {w w' : World} {L : List HP} (s : Sat w L) (he : ∀ b, b < w.heap.size → w'.heap[b]? = w.heap[b]?) (ho : World.out w' = World.out w) : Sat w' L := by
  obtain ⟨h, hp, o⟩ := s
  exact ⟨h, by rw [ho]; exact hp, o.congr fun p hm => he _ (o.lt hm)⟩
theorem flat_int (xs : List Int) : intE.flat xs = xs.map (Value.int .i64) := by
  induction xs with
  | nil => rfl
  | cons x xs ih => rw [intE.flat_cons, ih]; rfl
theorem putRow_at {w : World} {b : Nat} {t : TypeId} {xs ys : List Int} {rest : List Value} (hb : w.heap[b]? = some (.cells (intE.flat xs ++ rest).toArray t (0, 0))) (hl : ys.length = xs.length) :
    (putRow (Value.int .i64) w b 0 ys.toArray).heap[b]? = some (.cells (intE.flat ys ++ rest).toArray t (0, 0)) := by
  have e : putCells (Value.int .i64) 0 ys.toArray (intE.flat xs ++ rest).toArray = (intE.flat ys ++ rest).toArray := by
    rw [flat_int, flat_int]
    apply Array.ext_getElem?
    intro k
    simp only [putCells, Array.getElem?_mapIdx, List.getElem?_toArray, List.getElem?_append, List.length_map, hl, List.getElem?_map, List.size_toArray]
    by_cases hk : k < xs.length
    · have hk' : k < ys.length := by omega
      simp [hk, hk']
    · simp [hk]
  simp only [putRow, mapBlock, Array.getElem?_modify, if_true, hb, Option.map_some, onCells, e]
theorem putRow_off {w : World} {b c : Nat} {ys : List Int} (h : c ≠ b) : (putRow (Value.int .i64) w b 0 ys.toArray).heap[c]? = w.heap[c]? := by
  simp only [putRow, mapBlock, Array.getElem?_modify]
  rw [if_neg (fun e => h e.symm)]
/-- sorted numbers -/
def sortI (xs : List Int) : List Int := xs.mergeSort fun x y => decide (x ≤ y)
theorem sortI_len (xs : List Int) : (sortI xs).length = xs.length := List.length_mergeSort xs
end Go.Eng
namespace Go.Proofs
open Go.Eng Go.Sort Go.RowKit
end Go.Proofs
