/- Tables of wishes: what they are: contracts. -/
import Derived.Test.YtabonallopdgdaaBuild
set_option linter.all false
namespace Go.Proofs
open Go.Eng
open Classical
set_option linter.unusedVariables false
set_option maxRecDepth 100000
set_option maxHeartbeats 2000000
/-- what the first wishes have together -/
def sumB (f : Wsh → Int) (xs : List Wsh) (k : Nat) : Int := ((xs.take k).map f).sum
theorem sumB_zero {f : Wsh → Int} {xs : List Wsh} : sumB f xs 0 = 0 := by simp [sumB]
theorem sumB_succ {f : Wsh → Int} {xs : List Wsh} {k : Nat} (hk : k < xs.length) : sumB f xs (k + 1) = sumB f xs k + f (xs.getD k wsE.d) := by
  unfold sumB
  rw [List.take_add_one, List.getElem?_eq_getElem hk, List.map_append, List.sum_append]
  have e : xs.getD k wsE.d = xs[k] := by simp [List.getD, hk]
  rw [e]
  simp
theorem sumB_bd {f : Wsh → Int} {xs : List Wsh} {M : Int} (h : ∀ x ∈ xs, 0 ≤ f x ∧ f x ≤ M) (hM : 0 ≤ M) : ∀ k, k ≤ xs.length → 0 ≤ sumB f xs k ∧ sumB f xs k ≤ M * k := by
  intro k
  induction k with
  | zero => intro _; rw [sumB_zero]; omega
  | succ k ih =>
    intro hk
    have h1 := ih (by omega)
    have h2 := h _ (getD_mem (d := wsE.d) (show k < xs.length by omega))
    rw [sumB_succ (by omega), Int.natCast_add, Int.mul_add]
    omega
abbrev zF (w : Wsh) : Int := w.z
abbrev sF (w : Wsh) : Int := w.s
abbrev pF (w : Wsh) : Int := w.p
abbrev qF (w : Wsh) : Int := w.q * 4
def winT (xs : List Wsh) (k : Nat) : List Slt := (0, 0, 2 * (xs.length : Int)) :: (List.range k).map fun i : Nat => ((i : Int) + 1, 2 * (xs.length : Int) + sumB pF xs i, 2 * (xs.length : Int) + sumB pF xs (i + 1))
def sloT (xs : List Wsh) (k : Nat) : List Slt := (List.range k).map fun i : Nat => ((i : Int) + 1, sumB qF xs i, sumB qF xs (i + 1))
def cliT (xs : List Wsh) (k : Nat) : List Cli := (List.range k).map fun i : Nat => { cliW (xs.getD i wsE.d) with b := 128 + sumB zF xs i, f := sumB sF xs i, m := (i : Int) + 1, h := (i : Int) + 1 }
def frT (xs : List Wsh) : Nat → Int
  | 0 => 0
  | k + 1 => max (2 * (xs.length : Int) + sumB pF xs (k + 1)) (sumB qF xs (k + 1))
theorem range_snoc {α : Type} (f : Nat → α) (k : Nat) : (List.range (k + 1)).map f = (List.range k).map f ++ [f k] := by rw [List.range_succ, List.map_append]; rfl
/-- all may be had -/
structure HadT (xs : List Wsh) : Prop where
  len : 1 ≤ xs.length ∧ xs.length ≤ 8
  may : ∀ w ∈ xs, mayW w
  full : ∀ k, k < xs.length → 128 + sumB zF xs (k + 1) ≤ 16384 ∧ 2 * (xs.length : Int) + sumB pF xs (k + 1) ≤ 4096 ∧ sumB qF xs (k + 1) ≤ 4096
theorem Try.bldTables (a : Option Addr) (c : Nat) (xs : List Wsh) (L : List HP) (h : HadT xs) (hr : Rd wsE L a xs) :
    Con Try.prog 9 [.slice a xs.length c] L (Exs (fun y : (Option Addr × Nat) × (Option Addr × Nat) × (Option Addr × Nat) => .tuple #[.agg #[n64 (frT xs xs.length), .slice y.1.1 (winT xs xs.length).length y.1.2, .slice y.2.1.1 (sloT xs xs.length).length y.2.1.2, .slice y.2.2.1 (cliT xs xs.length).length y.2.2.2], n64 0, n64 0])
      (fun y => own slE 62 y.1.1 y.1.2 (winT xs xs.length) :: own slE 67 y.2.1.1 y.2.1.2 (sloT xs xs.length) :: own clE 64 y.2.2.1 y.2.2.2 (cliT xs xs.length) :: L)
      (fun y => ((winT xs xs.length).length ≤ y.1.2 ∧ Ad y.1.1 (winT xs xs.length).length) ∧ ((sloT xs xs.length).length ≤ y.2.1.2 ∧ Ad y.2.1.1 (sloT xs xs.length).length) ∧ ((cliT xs xs.length).length ≤ y.2.2.2 ∧ Ad y.2.2.1 (cliT xs xs.length).length))) := by
  have hl := h.len
  have hno : idxF (fun w => !decide (mayW w)) xs = -1 := idxF_no wsE.d _ xs (fun i hi => by
    rw [decide_eq_true (h.may _ (getD_mem hi))]; rfl)
  have hix := fun L h => Try.wiIndex a c xs L (by omega) h 23 [] (fun w => !decide (mayW w)) (fun x hx => Try.bldNot x L)
  rw [hno] at hix
  refine con_of Try.tysOk Try.func9 rfl rfl ?_
  conv => whnf
  repeat' (first
    | (first | ((with_reducible refine Br.ff ?_); conv => whnf) | ((with_reducible refine Br.df ?_ ?_); (focus (first | assumption | omega)); conv => whnf))
    | ((with_reducible refine Ar.i64 ?_ ?_); (focus omega); conv => whnf)
    | ((with_reducible refine Nd.mk ?_ ?_); (focus (first | omega | rfl | assumption | (simp; done))); conv => whnf)
    | ((with_reducible refine Nc.go' (fun _ => ?_)); conv => whnf)
    | (refine Ld.at 0 rfl rfl ?_; conv => whnf)
    | (refine St.at 0 rfl (by first | exact Nat.le_of_ble_eq_true rfl | (simp; done)) rfl ?_; conv => whnf)
    | (first | ((with_reducible refine (?_ : Cl _ 22 _ _ _ _)); (refine Cl.is (hix _ (by ((repeat (first | assumption | apply Rd.cons)); done))) ?_); conv => whnf) | ((with_reducible refine (?_ : Cl _ 24 _ _ _ _)); (refine Cl.exs (Try.bldRow _ _) ?_; rintro bb -); conv => whnf) | ((refine Cl.isAt 1 rfl (Try.bldRow1 _ _ _ _ (by constructor <;> omega)) ?_); conv => whnf)))
  rename_i bR bm bd bp b10 bw b11
  conv => whnf
  refine Lp.by3 Try.tysOk [53] (fun (k : Nat) (V : Int × Int × Int × Int × Int) (P : (Option Addr × Nat × List Slt) × (Option Addr × Nat × List Slt) × (Option Addr × Nat × List Cli)) => [.int .i64 k]) (fun k V P => ptc b11 34 [n64 V.2.2.2.2, .slice P.1.1 P.1.2.2.length P.1.2.1, .slice P.2.1.1 P.2.1.2.2.length P.2.1.2.1, .slice P.2.2.1 P.2.2.2.2.length P.2.2.2.1] :: own slE 62 P.1.1 P.1.2.1 P.1.2.2 :: own slE 67 P.2.1.1 P.2.1.2.1 P.2.1.2.2 :: own clE 64 P.2.2.1 P.2.2.2.1 P.2.2.2.2 :: ptc bm 3 [n64 V.1] :: ptc bd 3 [n64 V.2.1] :: ptc bp 3 [n64 V.2.2.1] :: ptc bb 3 [n64 V.2.2.2.1] :: ptc bR 34 [n64 0, .slice none 0 0, .slice none 0 0, .slice none 0 0] :: L) (fun k V P => k ≤ xs.length ∧ (V.1 = 128 + sumB zF xs k ∧ V.2.1 = sumB sF xs k ∧ V.2.2.1 = 2 * (xs.length : Int) + sumB pF xs k ∧ V.2.2.2.1 = sumB qF xs k ∧ V.2.2.2.2 = frT xs k) ∧ (P.1.2.2 = winT xs k ∧ P.1.2.2.length ≤ P.1.2.1 ∧ Ad P.1.1 P.1.2.2.length) ∧ (P.2.1.2.2 = sloT xs k ∧ P.2.1.2.2.length ≤ P.2.1.2.1 ∧ Ad P.2.1.1 P.2.1.2.2.length) ∧ (P.2.2.2.2 = cliT xs k ∧ P.2.2.2.2.length ≤ P.2.2.2.1 ∧ Ad P.2.2.1 P.2.2.2.2.length)) (fun k V P => xs.length - k) (0) ((128, 0, 0 + 2 * (xs.length : Int), 0, 0)) (((some ⟨bw, 0, none⟩, 1, [(0, 0, 0 + 2 * (xs.length : Int))]), (none, 0, []), (none, 0, []))) (by kernel_rfl) (by (refine FEnt.ent ?_; (repeat (first | exact FEnt.rfl | (refine FEnt.at 0 rfl ?_; (try simp only [List.eraseIdx_cons_zero, List.eraseIdx_cons_succ, List.eraseIdx_zero, List.tail_cons])) | (refine FEnt.at 1 rfl ?_; (try simp only [List.eraseIdx_cons_zero, List.eraseIdx_cons_succ, List.eraseIdx_zero, List.tail_cons])) | (refine FEnt.at 2 rfl ?_; (try simp only [List.eraseIdx_cons_zero, List.eraseIdx_cons_succ, List.eraseIdx_zero, List.tail_cons])) | (refine FEnt.at 3 rfl ?_; (try simp only [List.eraseIdx_cons_zero, List.eraseIdx_cons_succ, List.eraseIdx_zero, List.tail_cons])) | (refine FEnt.at 4 rfl ?_; (try simp only [List.eraseIdx_cons_zero, List.eraseIdx_cons_succ, List.eraseIdx_zero, List.tail_cons])) | (refine FEnt.lit 0 rfl rfl rfl rfl ?_; (try simp only [List.eraseIdx_cons_zero, List.eraseIdx_cons_succ, List.eraseIdx_zero, List.tail_cons])) | refine FEnt.nil ?_ | refine FEnt.drop ?_)); done)) (⟨by omega, ⟨by rw [sumB_zero]; rfl, by rw [sumB_zero], by show 0 + 2 * (xs.length : Int) = _; rw [sumB_zero]; omega, by rw [sumB_zero], rfl⟩, ⟨by show [((0 : Int), (0 : Int), 0 + 2 * (xs.length : Int))] = winT xs 0; rw [Int.zero_add]; rfl, by simp, fun _ => rfl⟩, ⟨rfl, by simp, fun h => (h rfl).elim⟩, ⟨rfl, by simp, fun h => (h rfl).elim⟩⟩) ?_
  rintro k ⟨m, d, p, b, fr⟩ ⟨⟨wa, wc, ws⟩, ⟨sa, sc, ss⟩, ⟨ca, cc, cs⟩⟩ ⟨h1, ⟨v1, v2, v3, v4, v5⟩, ⟨w1, w2, w3⟩, ⟨s1, s2, s3⟩, ⟨c1, c2, c3⟩⟩
  conv => whnf
  repeat (intro _; conv => whnf)
  dsimp only at v1 v2 v3 v4 v5 w1 w2 w3 s1 s2 s3 c1 c2 c3
  have hmz : ∀ x ∈ xs, (0 ≤ zF x ∧ zF x ≤ 1024) ∧ (0 ≤ sF x ∧ sF x ≤ 64) ∧ (0 ≤ pF x ∧ pF x ≤ 4096) ∧ (0 ≤ qF x ∧ qF x ≤ 64) := fun x hx => by
    obtain ⟨⟨a1, a2, -, -⟩, ⟨a3, a4, -, -⟩, a5, a6, a7, a8⟩ := h.may x hx
    simp only [zF, sF, pF, qF]
    omega
  have hz := sumB_bd (f := zF) (fun x hx => (hmz x hx).1) (by omega) k h1
  have hs := sumB_bd (f := sF) (fun x hx => (hmz x hx).2.1) (by omega) k h1
  have hp := sumB_bd (f := pF) (fun x hx => (hmz x hx).2.2.1) (by omega) k h1
  have hq := sumB_bd (f := qF) (fun x hx => (hmz x hx).2.2.2) (by omega) k h1
  by_cases hk : k < xs.length
  · have hw := h.may _ (getD_mem (d := wsE.d) hk)
    have hwb := hmz _ (getD_mem (d := wsE.d) hk)
    have hfu := h.full k hk
    have ez := sumB_succ (f := zF) hk
    have es := sumB_succ (f := sF) hk
    have ep := sumB_succ (f := pF) hk
    have eq := sumB_succ (f := qF) hk
    have hwl : ws.length = k + 1 := by rw [w1]; simp [winT]
    have hsl : ss.length = k := by rw [s1]; simp [sloT]
    have hcl : cs.length = k := by rw [c1]; simp [cliT]
    simp only [zF, sF, pF, qF] at ez es ep eq hwb
    clear hmz hno hix
    conv => whnf
    repeat' (first
      | ((with_reducible refine Br.dt ?_ ?_); (focus (first | assumption | omega)); conv => whnf)
      | ((with_reducible refine Nd.mk ?_ ?_); (focus (first | omega | rfl | assumption | (simp; done))); conv => whnf)
      | ((with_reducible refine Nc.go' (fun _ => ?_)); conv => whnf)
      | ((with_reducible refine Ix.ad ?_ ?_ ?_); (focus (exact Rd.ad (by assumption))); (focus (omega)); conv => whnf)
      | (first | ((with_reducible apply LdN.rdk); (focus ((repeat (first | assumption | apply Rd.cons)); done)); (focus rfl); (focus rfl); (focus (omega)); conv => whnf) | (refine LdN.at 0 rfl (by first | exact Nat.le_of_ble_eq_true rfl | (simp; done)) ?_; conv => whnf))
      | (refine St.at 0 rfl (by first | exact Nat.le_of_ble_eq_true rfl | (simp; done)) rfl ?_; conv => whnf)
      | ((with_reducible refine Cl.is (Try.bldClient _ _ hw) ?_); conv => whnf))
    rename_i b13 b14
    conv => whnf
    refine Dr.fr (id := 13) Try.tysOk rfl [(0, 0), (1, 0), (4, 0), (5, 0), (8, 0), (9, 0), (12, 0), (2, 1), (6, 1), (10, 1), (13, 1), (3, 5), (7, 5), (11, 5), (14, 1), (15, 5), (16, 2), (17, 2), (18, 2), (19, 2), (20, 5), (21, 5), (22, 5), (23, 5)] ([ptc bm 3 [n64 m], ptc bd 3 [n64 d], ptc bp 3 [n64 p], ptc bb 3 [n64 b]]) (ptc b14 64 (clC (cliW (xs.getD k wsE.d))) :: ptc b13 27 (wsE.e (xs.getD k wsE.d)) :: ptc b11 34 [n64 fr, .slice wa ws.length wc, .slice sa ss.length sc, .slice ca cs.length cc] :: own slE 62 wa wc ws :: own slE 67 sa sc ss :: own clE 64 ca cc cs :: ptc bR 34 [n64 0, .slice none 0 0, .slice none 0 0, .slice none 0 0] :: L) (by kernel_rfl) (by (refine FEnt.ent ?_; (repeat (first | exact FEnt.rfl | (refine FEnt.at 6 rfl ?_; (try simp only [List.eraseIdx_cons_zero, List.eraseIdx_cons_succ, List.eraseIdx_zero, List.tail_cons])))); done)) ?_
    conv => whnf
    conv => whnf
    repeat' (first
      | (first | ((with_reducible refine Br.ff ?_); conv => whnf) | ((with_reducible refine Br.df ?_ ?_); (focus (first | assumption | omega)); conv => whnf))
      | ((with_reducible refine Nd.mk ?_ ?_); (focus (first | omega | rfl | assumption | (simp; done))); conv => whnf)
      | ((with_reducible refine Nc.go' (fun _ => ?_)); conv => whnf)
      | (first | (refine Ld.at 0 rfl rfl ?_; conv => whnf) | (refine Ld.at 1 rfl rfl ?_; conv => whnf) | (refine Ld.at 3 rfl rfl ?_; conv => whnf))
      | (refine LdN.at 1 rfl (by first | exact Nat.le_of_ble_eq_true rfl | (simp; done)) ?_; conv => whnf)
      | ((with_reducible refine (?_ : CF _ 45 _ _ _ _)); (first | (refine CF.is (A' := [ptc bm 3 [n64 (m + (xs.getD k wsE.d).z)], ptc bd 3 [n64 d], ptc bp 3 [n64 p], ptc bb 3 [n64 b]]) (fun M => Try.bldRow1 bm m _ _ (by constructor <;> omega)) ?_) | (refine CF.is (A' := [ptc bm 3 [n64 (m + (xs.getD k wsE.d).z)], ptc bd 3 [n64 (d + (xs.getD k wsE.d).s)], ptc bp 3 [n64 p], ptc bb 3 [n64 b]]) (fun M => Try.bldRow2 bd d _ _ _ (by constructor <;> omega)) ?_) | (refine CF.is (A' := [ptc bm 3 [n64 (m + (xs.getD k wsE.d).z)], ptc bd 3 [n64 (d + (xs.getD k wsE.d).s)], ptc bp 3 [n64 (p + (xs.getD k wsE.d).p)], ptc bb 3 [n64 b]]) (fun M => Try.bldRow3 bp p _ _ _ _ (by constructor <;> omega)) ?_) | (refine CF.is (A' := [ptc bm 3 [n64 (m + (xs.getD k wsE.d).z)], ptc bd 3 [n64 (d + (xs.getD k wsE.d).s)], ptc bp 3 [n64 (p + (xs.getD k wsE.d).p)], ptc bb 3 [n64 (b + (xs.getD k wsE.d).q * 4)]]) (fun M => Try.bldRow4 bb b _ _ _ _ _ (by constructor <;> omega)) ?_)); conv => whnf)
      | (first | (refine FS.at 0 rfl (by first | exact Nat.le_of_ble_eq_true rfl | (simp; done)) rfl ?_; conv => whnf) | (refine FS.at 1 rfl (by first | exact Nat.le_of_ble_eq_true rfl | (simp; done)) rfl ?_; conv => whnf) | (refine FS.at 2 rfl (by first | exact Nat.le_of_ble_eq_true rfl | (simp; done)) rfl ?_; conv => whnf) | (refine FS.at 3 rfl (by first | exact Nat.le_of_ble_eq_true rfl | (simp; done)) rfl ?_; conv => whnf))
      | ((with_reducible refine CD.is (fun M => Try.bldBus _ _ hw) ?_); conv => whnf))
    rename_i b15 b16 b17 b18
    conv => whnf
    refine Dr.fr (id := 16) Try.tysOk rfl [(0, 0), (2, 0), (4, 0), (5, 0), (6, 0), (7, 0), (1, 1), (8, 0), (3, 1), (9, 5), (10, 0), (11, 5), (12, 0), (13, 5), (14, 0), (15, 5)] ([ptc b14 64 (clC (cliW (xs.getD k wsE.d)))]) (own slE 62 wa wc ws :: own slE 67 sa sc ss :: own clE 64 ca cc cs :: ptc b11 34 [n64 fr, .slice wa ws.length wc, .slice sa ss.length sc, .slice ca cs.length cc] :: ptc b15 60 [n64 m, n64 (m + (xs.getD k wsE.d).z)] :: ptc b16 60 [n64 d, n64 (d + (xs.getD k wsE.d).s)] :: ptc b17 60 [n64 p, n64 (p + (xs.getD k wsE.d).p)] :: ptc b18 60 [n64 b, n64 (b + (xs.getD k wsE.d).q * 4)] :: ptc bm 3 [n64 (m + (xs.getD k wsE.d).z)] :: ptc bd 3 [n64 (d + (xs.getD k wsE.d).s)] :: ptc bp 3 [n64 (p + (xs.getD k wsE.d).p)] :: ptc bb 3 [n64 (b + (xs.getD k wsE.d).q * 4)] :: ptc bR 34 [n64 0, .slice none 0 0, .slice none 0 0, .slice none 0 0] :: L) (by kernel_rfl) (by (refine FEnt.ent ?_; (repeat (first | exact FEnt.rfl | (refine FEnt.at 0 rfl ?_; (try simp only [List.eraseIdx_cons_zero, List.eraseIdx_cons_succ, List.eraseIdx_zero, List.tail_cons])) | (refine FEnt.at 1 rfl ?_; (try simp only [List.eraseIdx_cons_zero, List.eraseIdx_cons_succ, List.eraseIdx_zero, List.tail_cons])) | (refine FEnt.at 2 rfl ?_; (try simp only [List.eraseIdx_cons_zero, List.eraseIdx_cons_succ, List.eraseIdx_zero, List.tail_cons])) | (refine FEnt.at 3 rfl ?_; (try simp only [List.eraseIdx_cons_zero, List.eraseIdx_cons_succ, List.eraseIdx_zero, List.tail_cons])) | (refine FEnt.at 8 rfl ?_; (try simp only [List.eraseIdx_cons_zero, List.eraseIdx_cons_succ, List.eraseIdx_zero, List.tail_cons])) | (refine FEnt.at 9 rfl ?_; (try simp only [List.eraseIdx_cons_zero, List.eraseIdx_cons_succ, List.eraseIdx_zero, List.tail_cons])) | (refine FEnt.at 10 rfl ?_; (try simp only [List.eraseIdx_cons_zero, List.eraseIdx_cons_succ, List.eraseIdx_zero, List.tail_cons])) | refine FEnt.drop ?_)); done)) ?_
    conv => whnf
    conv => whnf
    repeat' (first
      | ((with_reducible refine Ar.i64 ?_ ?_); (focus omega); conv => whnf)
      | ((with_reducible refine Nd.mk ?_ ?_); (focus (first | omega | rfl | assumption | (simp; done))); conv => whnf)
      | ((with_reducible refine Nc.go' (fun _ => ?_)); conv => whnf)
      | (first | (refine Ld.at 4 rfl rfl ?_; conv => whnf) | (refine Ld.at 5 rfl rfl ?_; conv => whnf) | (refine Ld.at 6 rfl rfl ?_; conv => whnf) | (refine Ld.at 8 rfl rfl ?_; conv => whnf) | (refine Ld.at 10 rfl rfl ?_; conv => whnf) | (refine Ld.at 11 rfl rfl ?_; conv => whnf))
      | (refine LdN.at 0 rfl (by first | exact Nat.le_of_ble_eq_true rfl | (simp; done)) ?_; conv => whnf)
      | (first | (refine St.at 5 rfl (by first | exact Nat.le_of_ble_eq_true rfl | (simp; done)) rfl ?_; conv => whnf) | (refine St.at 6 rfl (by first | exact Nat.le_of_ble_eq_true rfl | (simp; done)) rfl ?_; conv => whnf) | (refine St.at 7 rfl (by first | exact Nat.le_of_ble_eq_true rfl | (simp; done)) rfl ?_; conv => whnf))
      | (refine FS.at 0 rfl (by first | exact Nat.le_of_ble_eq_true rfl | (simp; done)) rfl ?_; conv => whnf)
      | ((with_reducible refine (?_ : Sm _ (Builtin.append_ _ _ _) _ _)); (first | (((with_reducible apply (Sm.appAt (E := slE) (et := 67) Try.tysOk 6)); (focus rfl)); (rotate_left; (focus (exact Rd.ptc 0 rfl [(_, _, _)] rfl)); rotate_right; (focus rfl)); (focus rfl); (focus rfl); (focus rfl); (focus rfl); (focus rfl); (focus rfl); (focus ((simp only [List.length_append, List.length_cons, List.length_nil]); omega)); (intro _ _ _ _); conv => whnf) | (((with_reducible apply (Sm.appAt (E := slE) (et := 62) Try.tysOk 4)); (focus rfl)); (rotate_left; (focus (exact Rd.ptc 0 rfl [(_, _, _)] rfl)); rotate_right; (focus rfl)); (focus rfl); (focus rfl); (focus rfl); (focus rfl); (focus rfl); (focus rfl); (focus ((simp only [List.length_append, List.length_cons, List.length_nil]); omega)); (intro _ _ _ _); conv => whnf) | (((with_reducible apply (Sm.appAt (E := clE) (et := 64) Try.tysOk 4)); (focus rfl)); (rotate_left; (focus (exact Rd.ptc 0 rfl [⟨_, _, _, _, _, _, _, _, _, _⟩] rfl)); rotate_right; (focus rfl)); (focus rfl); (focus rfl); (focus rfl); (focus rfl); (focus rfl); (focus rfl); (focus ((simp only [List.length_append, List.length_cons, List.length_nil]); omega)); (intro _ _ _ _); conv => whnf))))
    rename_i a1' c1' hc1 had1 x2 a2' c2' hc2 had2 x3 a3' c3' hc3 had3
    refine ⟨k + 1, (m + (xs.getD k wsE.d).z, d + (xs.getD k wsE.d).s, p + (xs.getD k wsE.d).p, b + (xs.getD k wsE.d).q * 4, max (p + (xs.getD k wsE.d).p) (b + (xs.getD k wsE.d).q * 4)), ((a2', c2', ws ++ [((k : Int) + 1, p, p + (xs.getD k wsE.d).p)]), (a3', c3', ss ++ [((k : Int) + 1, b, b + (xs.getD k wsE.d).q * 4)]), (a1', c1', cs ++ [{ cliW (xs.getD k wsE.d) with b := m, f := d, m := (k : Int) + 1, h := (k : Int) + 1 }])), by kernel_rfl, by (try dsimp only); (refine FEnt.ent ?_; (repeat (first | exact FEnt.rfl | (refine FEnt.at 0 rfl ?_; (try simp only [List.eraseIdx_cons_zero, List.eraseIdx_cons_succ, List.eraseIdx_zero, List.tail_cons])) | (refine FEnt.at 2 rfl ?_; (try simp only [List.eraseIdx_cons_zero, List.eraseIdx_cons_succ, List.eraseIdx_zero, List.tail_cons])) | (refine FEnt.at 7 rfl ?_; (try simp only [List.eraseIdx_cons_zero, List.eraseIdx_cons_succ, List.eraseIdx_zero, List.tail_cons])) | (refine FEnt.at 8 rfl ?_; (try simp only [List.eraseIdx_cons_zero, List.eraseIdx_cons_succ, List.eraseIdx_zero, List.tail_cons])) | refine FEnt.drop ?_)); done), ⟨by omega, ⟨by (try dsimp only); omega, by (try dsimp only); omega, by (try dsimp only); omega, by (try dsimp only); omega, ?_⟩, ⟨?_, hc2, had2⟩, ⟨?_, hc3, had3⟩, ⟨?_, hc1, had1⟩⟩, by omega⟩
    · show max _ _ = max _ _
      rw [v3, v4, ep, eq]
      congr 1
      omega
    · show ws ++ _ = winT xs (k + 1)
      unfold winT
      rw [range_snoc, w1, v3]
      unfold winT
      rw [ep, List.cons_append, Int.add_assoc]
    · show ss ++ _ = sloT xs (k + 1)
      unfold sloT
      rw [range_snoc, s1, v4]
      unfold sloT
      rw [eq]
    · show cs ++ _ = cliT xs (k + 1)
      unfold cliT
      rw [range_snoc, c1, v1, v2]
      rfl
  · have e : k = xs.length := by omega
    subst e
    subst w1 s1 c1 v5
    conv => whnf
    repeat' (first
      | ((with_reducible refine Br.df ?_ ?_); (focus (first | assumption | omega)); conv => whnf)
      | ((with_reducible refine Nd.mk ?_ ?_); (focus (first | omega | rfl | assumption | (simp; done))); conv => whnf)
      | (first | (refine LdN.at 0 rfl (by first | exact Nat.le_of_ble_eq_true rfl | (simp; done)) ?_; conv => whnf) | (refine LdN.at 8 rfl (by first | exact Nat.le_of_ble_eq_true rfl | (simp; done)) ?_; conv => whnf))
      | (refine St.at 8 rfl (by first | exact Nat.le_of_ble_eq_true rfl | (simp; done)) rfl ?_; conv => whnf))
    all_goals exact Exs.of (((wa, wc), (sa, sc), (ca, cc)) : (Option Addr × Nat) × (Option Addr × Nat) × (Option Addr × Nat)) (by (try dsimp only); (refine FEnt.ent ?_; (repeat (first | exact FEnt.rfl | (refine FEnt.at 1 rfl ?_; (try simp only [List.eraseIdx_cons_zero, List.eraseIdx_cons_succ, List.eraseIdx_zero, List.tail_cons])) | refine FEnt.drop ?_)); done)) ⟨⟨w2, w3⟩, ⟨s2, s3⟩, ⟨c2, c3⟩⟩ rfl
end Go.Proofs
