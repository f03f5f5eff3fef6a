/- All devices, made: contracts. -/
import Derived.Test.YtdjpcfaidgofoaaGreatTopH
import Derived.Test.YtdjpcfaidgofoaaGreatSortI
set_option linter.all false
namespace Go.Proofs
open Go.Eng
open Classical
set_option linter.unusedVariables false
set_option maxRecDepth 100000
set_option maxHeartbeats 2000000
variable {DS DT : List Value}
theorem Tryz.dkIndex (hD : TysOk Tryz.prog (Tryz.tysD DS DT)) (a : Option Addr) (c : Nat) (xs : List Slt) (L : List HP) (hb : xs.length < 9223372036854775807) (hr : Rd slE L a xs) (g : FuncId) (cs : List Value) (p : Slt → Bool)
    (hg : ∀ x ∈ xs, Con Tryz.prog g (slV x.1 x.2.1 x.2.2 :: cs) L (Is (.bool (p x)) L)) :
    Con Tryz.prog 164 [.slice a xs.length c, .func (.func g) #[] cs.toArray] L (Is (.int .i64 (idxF p xs)) L) := by
  refine con_of hD Tryz.func164 rfl rfl ?_
  conv => whnf
  refine Lp.by hD [8] (fun k : Nat => [.int .i64 k]) (fun _ => L) (fun k => k ≤ xs.length ∧ ∀ i, i < k → p (xs.getD i slE.d) = false) (fun k => xs.length - k) (0) (by kernel_rfl) (by (exact Ent.rfl)) (⟨by omega, fun i h => by omega⟩) ?_
  rintro k ⟨h1, h2⟩
  conv => whnf
  repeat (intro _; conv => whnf)
  by_cases hk : k < xs.length
  · conv => whnf
    repeat' (first
      | ((with_reducible refine Br.dt ?_ ?_); (focus (first | assumption | omega)); conv => whnf)
      | ((with_reducible refine Ix.ad ?_ ?_ ?_); (focus (exact Rd.ad (by assumption))); (focus (omega)); conv => whnf)
      | ((with_reducible apply LdN.rdk); (focus ((repeat (assumption)); done)); (focus rfl); (focus rfl); (focus (omega)); conv => whnf))
    rw [forceL_eq]
    refine Cl.is (hg _ (getD_mem (d := slE.d) hk)) ?_
    conv => whnf
    repeat' (first
      | ((with_reducible refine Ar.i64 ?_ ?_); (focus omega); conv => whnf)
      | ((with_reducible refine Br.bs (fun _ => ?_) (fun _ => ?_) ) <;> (conv => whnf)))
    · rw [idxF_at slE.d p xs k (by omega) (by assumption) h2]
      exact Is.ent (by (exact Ent.rfl)) Is.rfl
    · refine ⟨k + 1, by kernel_rfl, by (exact Ent.rfl), ⟨by omega, lt_step h2 (by assumption)⟩, by omega⟩
  · conv => whnf
    repeat' ((with_reducible refine Br.df ?_ ?_); (focus (first | assumption | omega)); conv => whnf)
    rw [idxF_no slE.d p xs (fun i hi => h2 i (by omega))]
    exact Is.ent (by (exact Ent.rfl)) Is.rfl
theorem Tryz.dkContains (hD : TysOk Tryz.prog (Tryz.tysD DS DT)) (a : Option Addr) (c : Nat) (xs : List Slt) (L : List HP) (hb : xs.length < 9223372036854775807) (hr : Rd slE L a xs) (g : FuncId) (cs : List Value) (p : Slt → Bool)
    (hg : ∀ x ∈ xs, Con Tryz.prog g (slV x.1 x.2.1 x.2.2 :: cs) L (Is (.bool (p x)) L)) :
    Con Tryz.prog 124 [.slice a xs.length c, .func (.func g) #[] cs.toArray] L (Is (.bool (decide (∃ i, i < xs.length ∧ p (xs.getD i slE.d) = true))) L) := by
  refine con_of hD Tryz.func124 rfl rfl ?_
  conv => whnf
  repeat' ((with_reducible refine Cl.is (Tryz.dkIndex hD _ _ _ _ hb hr _ _ p hg) ?_); conv => whnf)
  refine Is.ent (by (exact Ent.rfl)) (Is.dec ?_)
  rcases idxF_spec slE.d p xs with ⟨h1, h2⟩ | ⟨m, h1, h2, h3, h4⟩
  · rw [h1]
    exact ⟨fun h => by omega, fun ⟨i, hi, hp⟩ => by rw [h2 i hi] at hp; cases hp⟩
  · rw [h2]
    exact ⟨fun _ => ⟨m, h1, h3⟩, fun _ => by omega⟩
theorem Tryz.dkFind1 (hD : TysOk Tryz.prog (Tryz.tysD DS DT)) (b : Nat) (o p1 p2 p3 : Int) (L : List HP) (t0 : TypeId) (hb : ∃ i : Nat, L[i]? = some (ptc b t0 [n64 o])) :
    Con Tryz.prog 165 [slV p1 p2 p3, .pointer (some ⟨b, 0, none⟩)] L (Is (.bool (decide (p1 = o))) L) := by
  obtain ⟨i, hi⟩ := hb
  refine con_of hD Tryz.func165 rfl rfl ?_
  conv => whnf
  repeat' (first
    | ((with_reducible refine Nc.go' (fun _ => ?_)); conv => whnf)
    | (refine Ld.at 0 rfl rfl ?_; conv => whnf)
    | ((refine Ld.at (i + 1) (by simpa using hi) rfl ?_); conv => whnf))
  all_goals (refine Is.ent ?_ ?_; (focus (refine FEnt.ent ?_; (repeat (first | exact FEnt.rfl | refine FEnt.drop ?_)); done)); (exact Is.rfl))
theorem Tryz.dkNew1 (hD : TysOk Tryz.prog (Tryz.tysD DS DT)) (b : Nat) (f t p1 p2 p3 : Int) (L : List HP) (t0 : TypeId) (h : 0 ≤ p2 ∧ p2 ≤ 512 ∧ 0 ≤ p3 ∧ p3 ≤ 64) (hb : ∃ i : Nat, L[i]? = some (ptc b t0 [n64 f, n64 t])) :
    Con Tryz.prog 125 [slV p1 p2 p3, .pointer (some ⟨b, 0, none⟩)] L (Is (.bool (decide (meetS f t p2 (p2 + p3)))) L) := by
  obtain ⟨i, hi⟩ := hb
  refine con_of hD Tryz.func125 rfl rfl ?_
  conv => whnf
  repeat' (first
    | ((with_reducible refine Ar.i64 ?_ ?_); (focus omega); conv => whnf)
    | ((with_reducible refine Nd.mk ?_ ?_); (focus (first | omega | rfl | assumption | (simp; done))); conv => whnf)
    | ((with_reducible refine Nc.go' (fun _ => ?_)); conv => whnf)
    | (refine Ld.at 0 rfl rfl ?_; conv => whnf)
    | (refine St.at 0 rfl (by first | exact Nat.le_of_ble_eq_true rfl | (simp; done)) rfl ?_; conv => whnf)
    | ((with_reducible refine Cl.is (Tryz.spanMeet _ _ _ _ _) ?_); conv => whnf)
    | ((refine LdN.at (i + 1) (by simpa using hi) (by exact Nat.le_of_ble_eq_true rfl) ?_); conv => whnf))
  all_goals (refine Is.ent ?_ ?_; (focus (refine FEnt.ent ?_; (repeat (first | exact FEnt.rfl | refine FEnt.drop ?_)); done)); (exact Is.rfl))
theorem Tryz.dkFindNo (hD : TysOk Tryz.prog (Tryz.tysD DS DT)) (b : Nat) (a : Option Addr) (c : Nat) (xs : List Slt) (o : Int) (L : List HP) (hl : xs.length ≤ 8) (hr : Rd slE L a xs) (hno : ∀ i, i < xs.length → ¬ (xs.getD i slE.d).1 = o) :
    Con Tryz.prog 123 [pV b, n64 o] (ptc b 244 (.slice a xs.length c :: DT) :: L) (Is (.tuple #[slV 0 0 0, n64 7]) (ptc b 244 (.slice a xs.length c :: DT) :: L)) := by
  have hx : idxF (fun s : Slt => decide (s.1 = o)) xs = -1 := idxF_no slE.d _ xs fun i hi => decide_eq_false (hno i hi)
  have hix := fun (L : List HP) hr (bb : Nat) (hb : ∃ i : Nat, L[i]? = some (ptc bb 3 [n64 o])) => Tryz.dkIndex hD a c xs L (by omega) hr 165 [pV bb] (fun s : Slt => decide (s.1 = o)) (fun x _ => Tryz.dkFind1 hD bb o _ _ _ L _ hb)
  rw [hx] at hix
  refine con_of hD Tryz.func123 rfl rfl ?_
  conv => whnf
  repeat' (first
    | (first | ((with_reducible refine Br.sn ?_); conv => whnf) | ((with_reducible refine Br.dt ?_ ?_); (focus (first | assumption | omega)); conv => whnf))
    | ((with_reducible refine Nd.mk ?_ ?_); (focus (first | omega | rfl | assumption | (simp; done))); conv => whnf)
    | ((with_reducible refine Nc.go' (fun _ => ?_)); conv => whnf)
    | (refine Ld.at 2 rfl rfl ?_; conv => whnf)
    | (refine LdN.at 0 rfl (by first | exact Nat.le_of_ble_eq_true rfl | (simp; done)) ?_; conv => whnf)
    | (refine St.at 0 rfl (by first | exact Nat.le_of_ble_eq_true rfl | (simp; done)) rfl ?_; conv => whnf)
    | ((with_reducible refine (?_ : Cl _ 164 _ _ _ _)); (refine Cl.is (hix _ (by ((repeat (first | assumption | apply Rd.cons)); done)) _ ⟨1, rfl⟩) ?_); conv => whnf))
  all_goals (refine Is.ent ?_ ?_; (focus (refine FEnt.ent ?_; (repeat (first | exact FEnt.rfl | (refine FEnt.at 2 rfl ?_; (try simp only [List.eraseIdx_cons_zero, List.eraseIdx_cons_succ, List.eraseIdx_zero, List.tail_cons])) | refine FEnt.drop ?_)); done)); (exact Is.rfl))
theorem Tryz.dkNew0 (hD : TysOk Tryz.prog (Tryz.tysD DS DT)) (a : Option Addr) (c : Nat) (xs : List Slt) (L : List HP) (hl : xs.length ≤ 8) (h : dkOk xs) (hr : Rd slE L a xs) :
    Con Tryz.prog 64 [.slice a xs.length c] L (Exs (fun y : Nat => .tuple #[pV y, n64 0]) (fun _ => L) (fun _ => True)) := by
  refine con_of hD Tryz.func64 rfl rfl ?_
  conv => whnf
  repeat' ((with_reducible refine Nc.go' (fun _ => ?_)); conv => whnf)
  rename_i bd
  conv => whnf
  refine Lp.by2 hD [14] (fun (k : Nat) (x : Option Addr × Nat × List Slt) => [.int .i64 k]) (fun k x => ptc bd 244 (.slice x.1 x.2.2.length x.2.1 :: DT) :: own slE 134 x.1 x.2.1 x.2.2 :: L) (fun k x => k ≤ xs.length ∧ x.2.2 = xs.take k ∧ x.2.2.length ≤ x.2.1 ∧ Ad x.1 x.2.2.length) (fun k x => xs.length - k) (0) (((none, 0, []) : Option Addr × Nat × List Slt)) (by kernel_rfl) (by (refine FEnt.ent ?_; (repeat (first | exact FEnt.rfl | (refine FEnt.at 0 rfl ?_; (try simp only [List.eraseIdx_cons_zero, List.eraseIdx_cons_succ, List.eraseIdx_zero, List.tail_cons])) | refine FEnt.nil ?_)); done)) (⟨by omega, rfl, Nat.le_refl _, fun h => (h rfl).elim⟩) ?_
  rintro k ⟨a2, c2, ys⟩ ⟨h1, h2, h3, h4⟩
  conv => whnf
  repeat (intro _; conv => whnf)
  dsimp only at h2 h3 h4
  by_cases hk : k < xs.length
  · have hyl : ys.length = k := by rw [h2, List.length_take]; omega
    have hsn : xs.take (k + 1) = ys ++ [xs.getD k slE.d] := by
      rw [h2, List.take_add_one, List.getElem?_eq_getElem hk]
      simp [List.getD, hk]
    obtain ⟨g1, g2, g3, g4, g5, g6⟩ := h k hk
    have hm : 1 ≤ (xs.getD k slE.d).1 ∧ (xs.getD k slE.d).1 ≤ 8 ∧ 0 ≤ (xs.getD k slE.d).2.2 ∧ (xs.getD k slE.d).2.2 ≤ 64 ∧ 0 ≤ (xs.getD k slE.d).2.1 ∧ (xs.getD k slE.d).2.1 ≤ 512 - (xs.getD k slE.d).2.2 := by omega
    have hyi : ∀ i, i < k → ys.getD i slE.d = xs.getD i slE.d := fun i hi => by rw [h2, getD_take hi]
    have hno : ∀ i, i < ys.length → ¬ (ys.getD i slE.d).1 = (xs.getD k slE.d).1 := fun i hi => by
      rw [hyi i (by omega), (h i (by omega)).1, g1]; omega
    have hnm : ¬ ∃ i, i < ys.length ∧ (fun s : Slt => decide (meetS (xs.getD k slE.d).2.1 ((xs.getD k slE.d).2.1 + (xs.getD k slE.d).2.2) s.2.1 (s.2.1 + s.2.2))) (ys.getD i slE.d) = true := by
      rintro ⟨i, hi, hp⟩
      rw [hyi i (by omega)] at hp
      exact g6 i (by omega) (of_decide_eq_true hp)
    have hfi := fun L hr => Tryz.dkFindNo hD bd a2 c2 ys (xs.getD k slE.d).1 L (by omega) hr hno
    have hbd : ∀ s ∈ ys, 0 ≤ s.2.1 ∧ s.2.1 ≤ 512 ∧ 0 ≤ s.2.2 ∧ s.2.2 ≤ 64 := fun s hs => by
      obtain ⟨i, hi, rfl⟩ := List.getElem_of_mem hs
      have e : ys[i] = ys.getD i slE.d := by simp [List.getD, hi]
      rw [e, hyi i (by omega)]
      have := h i (by omega)
      omega
    clear g6 hyi hno h2
    conv => whnf
    repeat' (first
      | (first | ((with_reducible refine Br.ff ?_); conv => whnf) | ((with_reducible refine Br.nt ?_); conv => whnf) | ((with_reducible refine Br.dt ?_ ?_); (focus (first | assumption | omega)); conv => whnf) | ((with_reducible refine Br.df ?_ ?_); (focus (first | assumption | omega)); conv => whnf))
      | ((with_reducible refine Ar.i64 ?_ ?_); (focus omega); conv => whnf)
      | ((with_reducible refine Nd.mk ?_ ?_); (focus (first | omega | rfl | assumption | (simp; done))); conv => whnf)
      | ((with_reducible refine Nc.go' (fun _ => ?_)); conv => whnf)
      | ((with_reducible refine Ix.ad ?_ ?_ ?_); (focus (exact Rd.ad (by assumption))); (focus (omega)); conv => whnf)
      | (first | (refine Ld.at 0 rfl rfl ?_; conv => whnf) | (refine Ld.at 1 rfl rfl ?_; conv => whnf) | (refine Ld.at 3 rfl rfl ?_; conv => whnf))
      | (first | ((with_reducible apply LdN.rdk); (focus ((repeat (first | assumption | apply Rd.cons)); done)); (focus rfl); (focus rfl); (focus (omega)); conv => whnf) | (refine LdN.at 0 rfl (by first | exact Nat.le_of_ble_eq_true rfl | (simp; done)) ?_; conv => whnf) | (refine LdN.at 2 rfl (by first | exact Nat.le_of_ble_eq_true rfl | (simp; done)) ?_; conv => whnf))
      | (first | (refine St.at 0 rfl (by first | exact Nat.le_of_ble_eq_true rfl | (simp; done)) rfl ?_; conv => whnf) | (refine St.at 5 rfl (by first | exact Nat.le_of_ble_eq_true rfl | (simp; done)) rfl ?_; conv => whnf))
      | ((with_reducible refine Dr.by (id := 13) hD rfl [(0, 0), (1, 0), (2, 0), (3, 0), (4, 1), (5, 1), (6, 2), (7, 3), (8, 0), (9, 0), (10, 3)] ?_ ?_); (focus kernel_rfl); conv => whnf)
      | (first | ((with_reducible refine Cl.is (Con.dt hm (Tryz.dkMay _ _ _ _)) ?_); conv => whnf) | ((with_reducible refine (?_ : Cl _ 123 _ _ _ _)); (refine Cl.isAt 1 rfl (hfi _ (by ((repeat ((refine Rd.own 1 rfl ?_); (assumption))); done))) ?_); conv => whnf) | ((with_reducible refine (?_ : Cl _ 124 _ _ _ _)); (refine Cl.is (Con.df hnm (Tryz.dkContains hD _ _ ys _ (by (omega)) (by ((repeat ((refine Rd.own 4 rfl ?_); (assumption))); done)) _ [_] (fun s : Slt => decide (meetS (xs.getD k slE.d).2.1 ((xs.getD k slE.d).2.1 + (xs.getD k slE.d).2.2) s.2.1 (s.2.1 + s.2.2))) (fun s hs => Tryz.dkNew1 hD _ _ _ _ _ _ _ _ (hbd s hs) ⟨0, rfl⟩))) ?_); conv => whnf))
      | ((with_reducible refine (?_ : Sm _ (Builtin.append_ _ _ _) _ _)); (((with_reducible apply (Sm.appAt (E := slE) (et := 134) hD 5)); (focus rfl)); (rotate_left; (focus (exact Rd.ptc 0 rfl [_] rfl)); rotate_right; (focus rfl)); (focus rfl); (focus rfl); (focus rfl); (focus rfl); (focus rfl); (focus rfl); (focus ((simp only [List.length_append, List.length_cons, List.length_nil]); omega)); (intro _ _ _ _); conv => whnf)))
    all_goals try (exfalso; omega)
    all_goals (rename_i a3 c3 hc3 had3; exact ⟨k + 1, (a3, c3, ys ++ [xs.getD k slE.d]), by kernel_rfl, by (try dsimp only); simp only [ovr, ovr_nil]; (refine FEnt.ent ?_; (repeat (first | exact FEnt.rfl | (refine FEnt.at 0 rfl ?_; (try simp only [List.eraseIdx_cons_zero, List.eraseIdx_cons_succ, List.eraseIdx_zero, List.tail_cons])) | (refine FEnt.at 5 rfl ?_; (try simp only [List.eraseIdx_cons_zero, List.eraseIdx_cons_succ, List.eraseIdx_zero, List.tail_cons])) | refine FEnt.drop ?_)); done), ⟨by omega, hsn.symm, hc3, had3⟩, by omega⟩)
  · conv => whnf
    repeat' ((with_reducible refine Br.df ?_ ?_); (focus (first | assumption | omega)); conv => whnf)
    all_goals exact Exs.of bd (by (try dsimp only); (refine FEnt.ent ?_; (repeat (first | exact FEnt.rfl | refine FEnt.drop ?_)); done)) trivial rfl
theorem Tryz.dkNew (a : Option Addr) (c : Nat) (xs : List Slt) (L : List HP) (hl : xs.length ≤ 8) (h : dkOk xs) (hr : Rd slE L a xs) :
    Con Tryz.prog 64 [.slice a xs.length c] L (Exs (fun y : Nat => .tuple #[pV y, n64 0]) (fun _ => L) (fun _ => True)) := by
  obtain ⟨DS, DT, hD⟩ := Tryz.tysD_ex
  exact Tryz.dkNew0 hD a c xs L hl h hr
end Go.Proofs
set_option linter.all false
namespace Go.Proofs
open Go.Eng
open Classical
set_option linter.unusedVariables false
set_option maxRecDepth 100000
set_option maxHeartbeats 4000000
/-- devices: their block; the channels', its map, its lines; the net's, its map, its ports; the disk's; the engine's -/
abbrev Dv := Nat × (Nat × Nat × List Ln) × (Nat × Nat × List Ln) × Nat × Nat
abbrev Tryz.devP (y : Dv) : List HP := [ptc y.1 152 [pV y.2.1.1, pV y.2.2.1.1, pV y.2.2.2.1, pV y.2.2.2.2],
  ptc y.2.1.1 219 [.map (some y.2.1.2.1), .slice none 0 0], mapH y.2.1.2.1 (.int .i64) (y.2.1.2.2.map kvL), bigH Tryz.lnH y.2.1.2.2,
  ptc y.2.2.1.1 229 [.map (some y.2.2.1.2.1), n64 0, .slice none 0 0], mapH y.2.2.1.2.1 (.int .i64) (y.2.2.1.2.2.map kvL), bigH Tryz.ptH y.2.2.1.2.2]
def Tryz.devH (y : Dv) : HP := fun e h => Parts e (Tryz.devP y) h
theorem Tryz.devShut {y : Dv} {L M : List HP} (h : FEnt L (Tryz.devP y ++ M)) : FEnt L (Tryz.devH y :: M) := FEnt.shut (fun e c hc => hc) h
def dvOk (C : Cfg) (y : Dv) : Prop := (y.2.1.2.2.length = C.xs.length ∧ ∀ i, i < C.xs.length → (y.2.1.2.2.getD i lnD).2.2 = linF C i) ∧ (y.2.2.1.2.2.length = C.xs.length ∧ ∀ i, i < C.xs.length → (y.2.2.1.2.2.getD i lnD).2.2 = prtF C i)
theorem Tryz.devNew (C : Cfg) (bm : Nat) (L : List HP) (hB : CfB C) (hR : Right C) (hw : Rd slE L C.wa C.ws) (hs : Rd slE L C.sa C.ss) (hc : Rd clE L C.ca C.xs) :
    Con Tryz.prog 23 [cfV C, pV bm] L (Exs (fun y : Dv => .tuple #[pV y.1, n64 0]) (fun y => Tryz.devH y :: L) (dvOk C)) := by
  have hl : C.xs.length ≤ 8 := by have := hR.f; omega
  have hck := fun L hw hs hc => Con.dt hR (Tryz.confCheck C L hB hw hs hc)
  have hua := fun a c L hr => Tryz.uaNew a c (rowsF (linF C) C.xs.length) L (by rw [rowsF_len]; exact hl) (right_lines hR) hr
  have hni := fun a c L hr => Tryz.niNew a c (rowsF (prtF C) C.xs.length) L (by rw [rowsF_len]; exact hl) (right_ports hR) hr
  have hdk := fun a c L hr => Tryz.dkNew a c (rowsF (dskF C) C.xs.length) L (by rw [rowsF_len]; exact hl) (right_sectors hR) hr
  have hrg := fun L hr => Tryz.confRegions C L hl hr
  have hrn := fun a c L hr => Tryz.regNew a c (rowsF (rgnF C) C.xs.length) L (by rw [rowsF_len]; exact hl) (right_regions hR) hr
  refine con_of Tryz.tysOk Tryz.func23 rfl rfl ?_
  conv => whnf
  repeat' (first
    | ((with_reducible refine Br.nt ?_); conv => whnf)
    | ((with_reducible refine Nc.go' (fun _ => ?_)); conv => whnf)
    | (refine Ld.at 0 rfl rfl ?_; conv => whnf)
    | (refine LdN.at 0 rfl (by first | exact Nat.le_of_ble_eq_true rfl | (simp; done)) ?_; conv => whnf)
    | ((with_reducible refine (?_ : Cl _ 61 _ _ _ _)); (refine Cl.is (hck _ (by ((repeat (first | assumption | apply Rd.cons)); done)) (by ((repeat (first | assumption | apply Rd.cons)); done)) (by ((repeat (first | assumption | apply Rd.cons)); done))) ?_); conv => whnf))
  rename_i b1
  conv => whnf
  refine Lp.by4 Tryz.tysOk [25, 6, 7, 8] (fun (k : Nat) (x y z : Option Addr × Nat × List Slt) => [.int .i64 k, .slice x.1 x.2.2.length x.2.1, .slice y.1 y.2.2.length y.2.1, .slice z.1 z.2.2.length z.2.1]) (fun k x y z => ptc b1 28 (cfC C) :: own slE 130 x.1 x.2.1 x.2.2 :: own slE 132 y.1 y.2.1 y.2.2 :: own slE 134 z.1 z.2.1 z.2.2 :: L) (fun k x y z => k ≤ C.xs.length ∧ (x.2.2 = rowsF (linF C) k ∧ x.2.2.length ≤ x.2.1 ∧ Ad x.1 x.2.2.length) ∧ (y.2.2 = rowsF (prtF C) k ∧ y.2.2.length ≤ y.2.1 ∧ Ad y.1 y.2.2.length) ∧ (z.2.2 = rowsF (dskF C) k ∧ z.2.2.length ≤ z.2.1 ∧ Ad z.1 z.2.2.length)) (fun k x y z => C.xs.length - k) (0) (((none, 0, []) : Option Addr × Nat × List Slt)) (((none, 0, []) : Option Addr × Nat × List Slt)) (((none, 0, []) : Option Addr × Nat × List Slt)) (by kernel_rfl) (by (refine FEnt.ent ?_; (repeat (first | exact FEnt.rfl | (refine FEnt.at 0 rfl ?_; (try simp only [List.eraseIdx_cons_zero, List.eraseIdx_cons_succ, List.eraseIdx_zero, List.tail_cons])) | refine FEnt.nil ?_)); done)) (⟨by omega, ⟨rfl, Nat.le_refl _, fun h => (h rfl).elim⟩, ⟨rfl, Nat.le_refl _, fun h => (h rfl).elim⟩, ⟨rfl, Nat.le_refl _, fun h => (h rfl).elim⟩⟩) ?_
  rintro k ⟨xa, xc, X⟩ ⟨ya, yc, Y⟩ ⟨za, zc, Z⟩ ⟨h1, ⟨x1, x2, x3⟩, ⟨y1, y2, y3⟩, ⟨z1, z2, z3⟩⟩
  conv => whnf
  repeat (intro _; conv => whnf)
  dsimp only at x1 x2 x3 y1 y2 y3 z1 z2 z3
  by_cases hk : k < C.xs.length
  · have xl : X.length = k := by rw [x1, rowsF_len]
    have yl : Y.length = k := by rw [y1, rowsF_len]
    have zl : Z.length = k := by rw [z1, rowsF_len]
    have xs := rowsF_succ (linF C) k
    have ys := rowsF_succ (prtF C) k
    have zs := rowsF_succ (dskF C) k
    rw [← x1] at xs
    rw [← y1] at ys
    rw [← z1] at zs
    clear x1 y1 z1
    conv => whnf
    repeat' (first
      | ((with_reducible refine Br.dt ?_ ?_); (focus (first | assumption | omega)); conv => whnf)
      | ((with_reducible refine Ar.i64 ?_ ?_); (focus omega); conv => whnf)
      | ((with_reducible refine Nd.mk ?_ ?_); (focus (first | omega | rfl | assumption | (simp; done))); conv => whnf)
      | ((with_reducible refine Nc.go' (fun _ => ?_)); conv => whnf)
      | ((with_reducible refine Ix.ad ?_ ?_ ?_); (focus (exact Rd.ad (by assumption))); (focus (omega)); conv => whnf)
      | (first | (refine Ld.at 0 rfl rfl ?_; conv => whnf) | (refine Ld.at 2 rfl rfl ?_; conv => whnf) | (refine Ld.at 4 rfl rfl ?_; conv => whnf))
      | ((with_reducible apply LdN.rdk); (focus ((repeat (first | assumption | apply Rd.cons)); done)); (focus rfl); (focus rfl); (focus (omega)); conv => whnf)
      | (refine St.at 0 rfl (by first | exact Nat.le_of_ble_eq_true rfl | (simp; done)) rfl ?_; conv => whnf)
      | ((with_reducible refine (?_ : Sm _ (Builtin.append_ _ _ _) _ _)); (first | (((with_reducible apply (Sm.appAt (E := slE) (et := 130) Tryz.tysOk 3)); (focus rfl)); (rotate_left; (focus (exact Rd.ptc 0 rfl [(_, _, _)] rfl)); rotate_right; (focus rfl)); (focus rfl); (focus rfl); (focus rfl); (focus rfl); (focus rfl); (focus rfl); (focus ((simp only [List.length_append, List.length_cons, List.length_nil]); omega)); (intro _ _ _ _); conv => whnf) | (((with_reducible apply (Sm.appAt (E := slE) (et := 132) Tryz.tysOk 5)); (focus rfl)); (rotate_left; (focus (exact Rd.ptc 0 rfl [(_, _, _)] rfl)); rotate_right; (focus rfl)); (focus rfl); (focus rfl); (focus rfl); (focus rfl); (focus rfl); (focus rfl); (focus ((simp only [List.length_append, List.length_cons, List.length_nil]); omega)); (intro _ _ _ _); conv => whnf) | (((with_reducible apply (Sm.appAt (E := slE) (et := 134) Tryz.tysOk 7)); (focus rfl)); (rotate_left; (focus (exact Rd.ptc 0 rfl [(_, _, _)] rfl)); rotate_right; (focus rfl)); (focus rfl); (focus rfl); (focus rfl); (focus rfl); (focus rfl); (focus rfl); (focus ((simp only [List.length_append, List.length_cons, List.length_nil]); omega)); (intro _ _ _ _); conv => whnf))))
    all_goals
      rename_i a1 c1 p1 q1 _ a2 c2 p2 q2 _ a3 c3 p3 q3
      exact ⟨k + 1, (a1, c1, X ++ [linF C k]), (a2, c2, Y ++ [prtF C k]), (a3, c3, Z ++ [dskF C k]), by kernel_rfl, by (try dsimp only); (refine FEnt.ent ?_; (repeat (first | exact FEnt.rfl | (refine FEnt.at 0 rfl ?_; (try simp only [List.eraseIdx_cons_zero, List.eraseIdx_cons_succ, List.eraseIdx_zero, List.tail_cons])) | (refine FEnt.at 2 rfl ?_; (try simp only [List.eraseIdx_cons_zero, List.eraseIdx_cons_succ, List.eraseIdx_zero, List.tail_cons])) | (refine FEnt.at 4 rfl ?_; (try simp only [List.eraseIdx_cons_zero, List.eraseIdx_cons_succ, List.eraseIdx_zero, List.tail_cons])) | (refine FEnt.at 7 rfl ?_; (try simp only [List.eraseIdx_cons_zero, List.eraseIdx_cons_succ, List.eraseIdx_zero, List.tail_cons])) | refine FEnt.drop ?_)); done), ⟨by omega, ⟨xs.symm, p1, q1⟩, ⟨ys.symm, p2, q2⟩, ⟨zs.symm, p3, q3⟩⟩, by omega⟩
  · have e : k = C.xs.length := by omega
    subst e
    subst x1 y1 z1
    conv => whnf
    repeat' (first
      | (first | ((with_reducible refine Br.ff ?_); conv => whnf) | ((with_reducible refine Br.df ?_ ?_); (focus (first | assumption | omega)); conv => whnf) | ((with_reducible refine Br.ndf ?_ ?_); (focus (first | assumption | omega)); conv => whnf))
      | ((with_reducible refine Nd.mk ?_ ?_); (focus (first | omega | rfl | assumption | (simp; done))); conv => whnf)
      | ((with_reducible refine Nc.go' (fun _ => ?_)); conv => whnf)
      | (refine LdN.at 6 rfl (by first | exact Nat.le_of_ble_eq_true rfl | (simp; done)) ?_; conv => whnf)
      | (first | ((with_reducible refine (?_ : Cl _ 62 _ _ _ _)); (refine Cl.exs (hua _ _ _ (by ((repeat ((refine Rd.own 1 rfl ?_); (assumption))); done))) ?_; rintro ⟨bu, mu, us⟩ hu); conv => whnf) | ((with_reducible refine (?_ : Cl _ 63 _ _ _ _)); (refine Cl.exs (hni _ _ _ (by ((repeat ((refine Rd.own 5 rfl ?_); (assumption))); done))) ?_; rintro ⟨bn, mn, ns⟩ hn); conv => whnf) | ((with_reducible refine (?_ : Cl _ 64 _ _ _ _)); (refine Cl.exs (hdk _ _ _ (by ((repeat (first | ((refine Rd.own 6 rfl ?_); (assumption)) | apply Rd.cons)); done))) ?_; rintro bk _); conv => whnf) | ((with_reducible refine (?_ : Cl _ 66 _ _ _ _)); (refine Cl.new (hrg _ (by ((repeat (first | assumption | apply Rd.cons)); done))) (fun ga gc hgc hgad => ?_)); conv => whnf) | ((with_reducible refine (?_ : Cl _ 65 _ _ _ _)); (refine Cl.exs (hrn _ _ _ (by ((repeat ((refine Rd.own 0 rfl ?_); (assumption))); done))) ?_; rintro ⟨bt, mt⟩ _); conv => whnf) | ((with_reducible refine Cl.exs (Tryz.dmaNew _ _ _) (fun be _ => ?_)); conv => whnf)))
    all_goals try (exfalso; omega)
    all_goals
      rename_i b
      exact Exs.of ((b, (bu, mu, us), (bn, mn, ns), bk, be) : Dv) (by (try dsimp only); (refine FEnt.ent ?_; (repeat (first | exact FEnt.rfl | (refine FEnt.at 0 rfl ?_; (try simp only [List.eraseIdx_cons_zero, List.eraseIdx_cons_succ, List.eraseIdx_zero, List.tail_cons])) | (refine FEnt.at 3 rfl ?_; (try simp only [List.eraseIdx_cons_zero, List.eraseIdx_cons_succ, List.eraseIdx_zero, List.tail_cons])) | (refine FEnt.at 6 rfl ?_; (try simp only [List.eraseIdx_cons_zero, List.eraseIdx_cons_succ, List.eraseIdx_zero, List.tail_cons])) | (apply Tryz.devShut) | refine FEnt.drop ?_)); done)) ⟨⟨hu.1.trans (rowsF_len _ _), fun i hi => (hu.2 i (by rw [rowsF_len]; exact hi)).trans (rowsF_getD _ _ hi)⟩, ⟨hn.1.trans (rowsF_len _ _), fun i hi => (hn.2 i (by rw [rowsF_len]; exact hi)).trans (rowsF_getD _ _ hi)⟩⟩ rfl
end Go.Proofs
